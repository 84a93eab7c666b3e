/- heraldlaw20.FsmKnown: what its walk needs. -/
import Derived.Test.YtnbopmpbgopafaaCopy
import Derived.Test.YtnbopmpbgopafaaPlain2
import Derived.Deep.CutBlock
namespace Go.Proofs.Ytnbopmpbgopafaa
open Go.RowKit
variable {A B : Nat → Prop}

/-- The machine that is worked on: what is older than w0 stands; behind wz nothing but the machine's own block has turned. -/
structure On (w0 : World) (base : Nat) (wz : World) (S : Nat → Prop) (w : World) (bX : Nat) (m : MachD) : Prop where
  mach : Mach base S w bX m
  below : Below w0.heap.size w0 w
  keeps : Keeps (fun k => k < wz.heap.size ∧ k ≠ bX) wz w
  hS : ∀ k, S k → k < w.heap.size
  hb : w0.heap.size ≤ base
theorem On.next {w0 wz w w' : World} {base bX : Nat} {S : Nat → Prop} {m : MachD} (h : On w0 base wz S w bX m) (hb : Below w.heap.size w w') : On w0 base wz S w' bX m :=
  ⟨h.mach.below hb, below_trans h.below hb (Nat.le_refl _), h.keeps.trans (Keeps.of_below hb), fun k hk => Nat.lt_of_lt_of_le (h.hS k hk) hb.size, h.hb⟩
theorem On.did {w0 wz w w' : World} {base bX : Nat} {S : Nat → Prop} {m m' : MachD} (h : On w0 base wz S w bX m) (hm : Mach base S w' bX m') (hk : Keeps (fun b => b < w.heap.size ∧ b ≠ bX) w w') : On w0 base wz S w' bX m' :=
  ⟨hm, below_did h.below hk (Nat.le_trans h.hb hm.lt.1) h.below.size, h.keeps.trans (hk.mono fun _ hk2 => ⟨Nat.lt_of_lt_of_le hk2.1 h.keeps.size, hk2.2⟩), fun k hk2 => Nat.lt_of_lt_of_le (h.hS k hk2) hk.size, h.hb⟩
/-- What Do leaves of it. -/
def DidOn (w0 : World) (base : Nat) (wz : World) (S : Nat → Prop) (w : World) (bX : Nat) (m' : MachD) (L : List ActD) (e : Ending) (w' : World) : Prop :=
  ∃ (ra : Option Addr) (rc : Nat), e = .returned (.slice ra L.length rc) ∧ On w0 base wz S w' bX m' ∧ Rd (fun _ => True) w' 6 cT (.slice ra L.length rc) L ∧ Keeps (fun b => b < w.heap.size ∧ b ≠ bX) w w'
theorem c_onOpen {w0 wz w : World} {base bX : Nat} {S : Nat → Prop} {m m' : MachD} {L : List ActD} (h : On w0 base wz S w bX m) {kd : Int} {o : OpenD} {qf qa qk : Value} {d : VerD} (hd : doD m kd o d = (m', L)) (ho : OpenAt B w o qf qa qk) (hB : ∀ k, B k → k < w.heap.size ∧ k ≠ bX)
    (l1 : o.fams.length ≤ 1000) (l2 : o.adds.length ≤ 1000) (l3 : o.kept.length ≤ 1000) :
    Calls Try.prog 10 #[.pointer (some ⟨bX, 0, none⟩), .agg (inCells kd o qf qa qk d)] w (DidOn w0 base wz S w bX m' L) := by
  refine (c_DoM h.mach h.hS ho hB (by omega) (by omega) (by omega)).mono ?_
  rw [hd]
  rintro e w' ⟨ra, rc, rfl, hm, ho', hk⟩
  exact ⟨ra, rc, rfl, h.did hm hk, (ho'.rd cod_T).mono (fun _ _ => trivial), hk⟩
theorem c_onDo {w0 wz w : World} {base bX : Nat} {S : Nat → Prop} {m m' : MachD} {L : List ActD} (h : On w0 base wz S w bX m) (kd : Int) {d : VerD} (hd : doD m kd openNone d = (m', L)) :
    Calls Try.prog 10 #[.pointer (some ⟨bX, 0, none⟩), .agg (inCells kd openNone nilS nilS nilS d)] w (DidOn w0 base wz S w bX m' L) :=
  c_onOpen (B := fun _ => False) h hd (OpenAt.none _ _) (fun _ h => h.elim) (by decide) (by decide) (by decide)
theorem c_onState {w0 wz w : World} {base bX : Nat} {S : Nat → Prop} {m : MachD} (h : On w0 base wz S w bX m) {st : Int} (hs : m.state = st) :
    Calls Try.prog 9 #[.pointer (some ⟨bX, 0, none⟩)] w fun e w' => e = .returned (.int .i64 st) ∧ w = w' := by
  subst hs
  exact c_State h.mach.state
theorem c_armL (w : World) (t n : Int) : Calls Try.prog 24 #[.int .i64 t, .int .i64 n] w fun e w' => e = .returned (.agg #[.int .i64 6, .int .i64 t, .int .i64 n, .int .u8 0, .int .u8 0, .string ⟨#[]⟩]) ∧ Below w.heap.size w w' := c_mkarm w t n
/-- A variable of an act: its six cells. -/
def SRet (b : Nat) (x : ActD) (w : World) : Prop := ∀ j u, (cT x)[j]? = some u → w.cell? ⟨b, j, none⟩ = some u
theorem SRet.below {b : Nat} {x : ActD} {w w' : World} (h : SRet b x w) (hb : Below w.heap.size w w') : SRet b x w' := fun j u hu => by
  rw [hb.cell (p := ⟨b, j, none⟩) (World.block_lt_of_cell? w _ (h j u hu))]; exact h j u hu
theorem SRet.did {b bX : Nat} {x : ActD} {w w' : World} (h : SRet b x w) (hk : Keeps (fun k => k < w.heap.size ∧ k ≠ bX) w w') (hne : b ≠ bX) : SRet b x w' := fun j u hu =>
  hk.cell (p := ⟨b, j, none⟩) ⟨World.block_lt_of_cell? w _ (h j u hu), hne⟩ (h j u hu)
theorem SRet.new {x : ActD} {w : World} : SRet w.heap.size x (w.alloc (.cells (actCells x) 50)) := fun j u hu => by
  rw [row_cell (heap_new1 w _ _ rfl)]
  simpa [cT] using hu
theorem Mach.other {base : Nat} {S : Nat → Prop} {w w' : World} {bj bX : Nat} {m : MachD} (h : Mach base S w bj m) (hk : Keeps (fun b => b < w.heap.size ∧ b ≠ bX) w w') (hne : bj ≠ bX) (hS : S bX) : Mach base S w' bj m :=
  h.keeps hk ⟨h.lt.2, hne⟩ (fun k _ hk2 hs => ⟨hk2, fun e => hs (e ▸ hS)⟩)
theorem Mach.grow {base : Nat} {S S' : Nat → Prop} {w w' : World} {bj : Nat} {m : MachD} (h : Mach base S w bj m) (hb : Below w.heap.size w w') (hS : ∀ k, S' k → S k ∨ w.heap.size ≤ k) : Mach base S' w' bj m := by
  obtain ⟨h1, A, v, hm, hA⟩ := h.below hb
  obtain ⟨_, A0, v0, hm0, hA0⟩ := h
  refine ⟨h1, A0, v0, ⟨?_, hm0.held.keeps (Keeps.of_below (A := fun _ => True) hb) (fun _ _ => trivial), fun k hk => ⟨Nat.lt_of_lt_of_le (hm0.hA k hk).1 hb.size, (hm0.hA k hk).2⟩, hm0.hold, hm0.st⟩, fun k hk => ⟨(hA0 k hk).1, fun hs => ?_⟩⟩
  · exact below_row hb hm0.row
  · rcases hS k hs with h2 | h2
    · exact (hA0 k hk).2 h2
    · have := (hm0.hA k hk).1; omega

/-- A list of acts that was just laid, in block n. -/
theorem rd_litB {w : World} {L : List ActD} {cs : Array Value} (h : cs = (L.flatMap cT).toArray) (hl : L.length ≤ 1000) : Rd (fun k => k = w.heap.size) (w.alloc (.cells cs 50)) 6 cT (.slice (some ⟨w.heap.size, 0, none⟩) L.length L.length) L := by
  subst h
  have hl : L.length ≤ maxLen := Nat.le_trans hl (by decide)
  refine .inr ⟨_, _, _, rfl, Nat.le_refl _, hl, .inr rfl, fun i x hx j u hu => ?_⟩
  have hj : j < 6 := by have := (List.getElem?_eq_some_iff.1 hu).1; rwa [cod_T.len] at this
  rw [row_cell (heap_new1 w _ _ rfl), Nat.zero_add]
  simpa [← hu] using flat_get cod_T.len L i x hx j hj
/-- A list that lies in one block, which stands in the heap and is not bX. -/
def LitAt (bX : Nat) (w : World) (b : Nat) (L : List ActD) : Prop := Rd (fun k => k = b) w 6 cT (.slice (some ⟨b, 0, none⟩) L.length L.length) L ∧ b < w.heap.size ∧ bX < b
theorem LitAt.below {bX b : Nat} {w w' : World} {L : List ActD} (h : LitAt bX w b L) (hb : Below w.heap.size w w') : LitAt bX w' b L := ⟨h.1.below hb, Nat.lt_of_lt_of_le h.2.1 hb.size, h.2.2⟩
theorem LitAt.did {bX b : Nat} {w w' : World} {L : List ActD} (h : LitAt bX w b L) (hk : Keeps (fun k => k < w.heap.size ∧ k ≠ bX) w w') : LitAt bX w' b L :=
  ⟨h.1.keeps hk (fun k e => by have h1 := h.2.1; have h2 := h.2.2; exact ⟨by omega, by omega⟩), Nat.lt_of_lt_of_le h.2.1 hk.size, h.2.2⟩
theorem LitAt.rd {bX b : Nat} {w : World} {L : List ActD} (h : LitAt bX w b L) : Rd (fun _ => True) w 6 cT (.slice (some ⟨b, 0, none⟩) L.length L.length) L := h.1.mono (fun _ _ => trivial)
theorem LitAt.new {bX : Nat} {w : World} {L : List ActD} {cs : Array Value} (h : cs = (L.flatMap cT).toArray) (hl : L.length ≤ 1000) (hb : bX < w.heap.size) : LitAt bX (w.alloc (.cells cs 50)) w.heap.size L :=
  ⟨rd_litB h hl, by simp, hb⟩
theorem On.reset {w0 wz w : World} {base bX : Nat} {S : Nat → Prop} {m : MachD} (h : On w0 base wz S w bX m) : On w0 base w S w bX m :=
  ⟨h.mach, h.below, Keeps.refl _ _, h.hS, h.hb⟩
/-- What Copy leaves: S1 is S and the new one's block. -/
def CopiedOn (w0 : World) (base : Nat) (wz : World) (S1 : Nat → Nat → Prop) (w : World) (bX : Nat) (m : MachD) (e : Ending) (w' : World) : Prop :=
  ∃ bn, e = .returned (.pointer (some ⟨bn, 0, none⟩)) ∧ bn = w.heap.size ∧ bn < w'.heap.size ∧ Below w.heap.size w w' ∧ On w0 base wz (S1 bn) w' bX m ∧ Mach base (S1 bn) w' bn m
theorem c_onCopy {w0 wz w : World} {base bX : Nat} {S : Nat → Prop} {m : MachD} (h : On w0 base wz S w bX m) (S1 : Nat → Nat → Prop) (hS1 : ∀ n k, S1 n k ↔ S k ∨ k = n) :
    Calls Try.prog 16 #[.pointer (some ⟨bX, 0, none⟩)] w (CopiedOn w0 base wz S1 w bX m) := by
  refine (c_CopyM h.mach).mono ?_
  rintro e w' ⟨rfl, hz, hb, h1, h2⟩
  have e1 : (fun k => S k ∨ k = w.heap.size) = S1 w.heap.size := by funext k; exact propext (hS1 _ k).symm
  rw [e1] at h1 h2
  refine ⟨_, rfl, rfl, by omega, hb, ⟨h1, below_trans h.below hb (Nat.le_refl _), h.keeps.trans (Keeps.of_below hb), fun k hk => ?_, h.hb⟩, h2⟩
  rcases (hS1 _ k).1 hk with h3 | h3
  · have := h.hS k h3; omega
  · omega
theorem c_onSession {w0 wz w : World} {base bX : Nat} {S : Nat → Prop} {m : MachD} (h : On w0 base wz S w bX m) (hs : Small m) {s : SesD} {b : Bool} (h1 : sesOut m = s) (h2 : decide (5 ≤ m.state) = b) :
    Calls Try.prog 12 #[.pointer (some ⟨bX, 0, none⟩)] w (SesTold w s b) := by
  subst h1 h2
  exact c_SessionM h.mach hs
end Go.Proofs.Ytnbopmpbgopafaa
