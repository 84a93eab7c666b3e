/- How this program's arguments read. -/
import Derived.Test.YtnbopmpbgopafaaRead
namespace Go.Proofs.Ytnbopmpbgopafaa
open Go.RowKit

theorem exists_list {τ : Type} {Q : Nat → τ → Prop} : ∀ (n : Nat), (∀ i, i < n → ∃ x, Q i x) → ∃ l : List τ, l.length = n ∧ ∀ i x, l[i]? = some x → Q i x
  | 0, _ => ⟨[], rfl, fun i x h => by simp at h⟩
  | n + 1, h => by
    obtain ⟨l, hl, hq⟩ := exists_list n (fun i hi => h i (by omega))
    obtain ⟨x, hx⟩ := h n (by omega)
    refine ⟨l ++ [x], by simp [hl], fun i y hy => ?_⟩
    by_cases hi : i < l.length
    · rw [List.getElem?_append_left hi] at hy; exact hq i y hy
    · rw [List.getElem?_append_right (by omega)] at hy
      have : i - l.length = 0 := by
        have := (List.getElem?_eq_some_iff.1 hy).1
        simp at this; omega
      rw [this] at hy
      simp at hy
      subst hy
      have : i = n := by omega
      rw [this]; exact hx

theorem spot_none {w : World} {ad : Addr} {u : Value} (h : w.cell? ad = some u) : ad.spot = none := by
  unfold World.cell? at h
  split at h
  · cases hs : ad.spot with
    | none => rfl
    | some x => rw [hs] at h; simp at h
  · cases h

theorem Reads.rd {P : Program} {w : World} {t e : TypeId} {cs : List Value} {τ : Type} {sz : Nat} {enc : τ → List Value} {Good : τ → Prop} (h : Reads P w t cs) (ht : P.underlying t = some (.slice e)) (hsz : P.cellsOf e = sz) (hpos : 0 < sz)
    (dec : ∀ es, es.length = sz → Reads P w e es → ∃ x, es = enc x ∧ Good x) :
    ∃ v l, cs = [v] ∧ Rd (fun b => b < w.heap.size) w sz enc v l ∧ (∀ x ∈ l, Good x) ∧ l.length * P.bytesOf e ≤ reachBytes := by
  obtain ⟨a, len, cap, rfl, hw, ⟨rfl, rfl, rfl⟩ | ⟨ad, rfl, h1, h2, h3, h4⟩⟩ := h.slice ht
  · exact ⟨_, [], rfl, .inl ⟨none, rfl, rfl⟩, by simp, by simp⟩
  · rw [hsz] at h3 h4
    have hone : ∀ k es, w.cells? 0 (ad.add (k * sz)) sz = some es → ∃ u, w.cell? (ad.add (k * sz)) = some u := fun k es hes => by
      obtain ⟨g1, g2⟩ := cells_at hes
      have g := g2 0 es[0] (List.getElem?_eq_getElem (by omega))
      simp only [Addr.add, if_true] at g
      exact ⟨_, g⟩
    by_cases h0 : cap = 0
    · have hl : len = 0 := by omega
      subst h0 hl
      exact ⟨_, [], rfl, .inl ⟨some ad, rfl, rfl⟩, by simp, by simp⟩
    · have hs : ad.spot = none := by
        by_cases hl : 0 < len
        · obtain ⟨es, hc, _⟩ := h3 0 hl
          obtain ⟨u, hu⟩ := hone 0 es hc
          simp only [Nat.zero_mul, Addr.add, if_true] at hu
          exact spot_none hu
        · obtain ⟨es, hc⟩ := h4 (by omega)
          obtain ⟨u, hu⟩ := hone len es hc
          have : len = 0 := by omega
          subst this
          simp only [Nat.zero_mul, Addr.add, if_true] at hu
          exact spot_none hu
      obtain ⟨b, off, sp⟩ := ad
      simp only at hs
      subst hs
      obtain ⟨l, hl, hq⟩ := exists_list (Q := fun i x => w.cells? 0 ((⟨b, off, none⟩ : Addr).add (i * sz)) sz = some (enc x) ∧ Good x) len (fun i hi => by
        obtain ⟨es, hc, hr⟩ := h3 i hi
        obtain ⟨x, rfl, hg⟩ := dec es (cells_at hc).1 hr
        exact ⟨x, hc, hg⟩)
      subst hl
      refine ⟨_, l, rfl, .inr ⟨b, off, cap, rfl, h1, h2, ?_, fun i x hx j u hu => ?_⟩, fun x hx => ?_, hw⟩
      · cases l with
        | nil => exact .inl rfl
        | cons x l =>
          obtain ⟨u, hu⟩ := hone 0 _ (hq 0 x rfl).1
          exact .inr (by have := World.block_lt_of_cell? w _ hu; simpa [addr_add] using this)
      · have := (cells_at (hq i x hx).1).2 j u hu
        rwa [addr_add, addr_add] at this
      · obtain ⟨i, hi⟩ := List.getElem?_of_mem hx
        exact (hq i x hi).2

theorem field_at {P : Program} {w : World} {fs : Array Field} {cs : List Value} (h : ∀ (i : Nat) (f : Field), fs.toList[i]? = some f → Reads P w f.type ((cs.drop f.offset).take (P.cellsOf f.type))) (i : Nat) (f : Field) (hf : fs.toList[i]? = some f)
    {T off n : Nat} (hT : f.type = T) (ho : f.offset = off) (hc : P.cellsOf T = n) : Reads P w T ((cs.drop off).take n) := by
  subst hT ho hc
  exact h i f hf

theorem item_at {P : Program} {w : World} {cs : List Value} {e n m : Nat} (h : ∀ i, i < m → Reads P w e ((cs.drop (i * P.cellsOf e)).take (P.cellsOf e))) (i : Nat) (hi : i < m) (hc : P.cellsOf e = n) : Reads P w e ((cs.drop (i * n)).take n) := by
  subst hc
  exact h i hi

theorem len2 {cs : List Value} (h : cs.length = 2) : ∃ a b, cs = [a, b] := by
  match cs, h with | [_, _], _ => exact ⟨_, _, rfl⟩
theorem len3 {cs : List Value} (h : cs.length = 3) : ∃ a b c, cs = [a, b, c] := by
  match cs, h with | [_, _, _], _ => exact ⟨_, _, _, rfl⟩
theorem len11 {cs : List Value} (h : cs.length = 11) : ∃ c0 c1 c2 c3 c4 c5 c6 c7 c8 c9 c10, cs = [c0, c1, c2, c3, c4, c5, c6, c7, c8, c9, c10] := by
  match cs, h with | [_, _, _, _, _, _, _, _, _, _, _], _ => exact ⟨_, _, _, _, _, _, _, _, _, _, _, rfl⟩
theorem len15 {cs : List Value} (h : cs.length = 15) : ∃ c0 c1 c2 c3 c4 c5 c6 c7 c8 c9 c10 c11 c12 c13 c14, cs = [c0, c1, c2, c3, c4, c5, c6, c7, c8, c9, c10, c11, c12, c13, c14] := by
  match cs, h with | [_, _, _, _, _, _, _, _, _, _, _, _, _, _, _], _ => exact ⟨_, _, _, _, _, _, _, _, _, _, _, _, _, _, _, rfl⟩

theorem n_int : Try.prog.cellsOf 3 = 1 := by kernel_rfl
theorem n_bool : Try.prog.cellsOf 4 = 1 := by kernel_rfl
theorem n_u8 : Try.prog.cellsOf 5 = 1 := by kernel_rfl
theorem n_u32 : Try.prog.cellsOf 25 = 1 := by kernel_rfl
theorem n_ints : Try.prog.cellsOf 26 = 1 := by kernel_rfl
theorem n_adds : Try.prog.cellsOf 29 = 1 := by kernel_rfl
theorem n_kept : Try.prog.cellsOf 30 = 1 := by kernel_rfl
theorem n_Add : Try.prog.cellsOf 99 = 3 := by kernel_rfl
theorem n_Rest : Try.prog.cellsOf 108 = 2 := by kernel_rfl
theorem n_Open : Try.prog.cellsOf 32 = 11 := by kernel_rfl
theorem n_Ver : Try.prog.cellsOf 44 = 3 := by kernel_rfl
theorem n_Inp : Try.prog.cellsOf 46 = 15 := by kernel_rfl
theorem n_Peer : Try.prog.cellsOf 28 = 23 := by kernel_rfl

theorem read_Add {w : World} {es : List Value} (h : Reads Try.prog w 99 es) : ∃ x : AddD, es = cA x := by
  obtain ⟨hl, hf⟩ := h.struct Try.underlying99
  rw [n_Add] at hl
  obtain ⟨a, b, c, rfl⟩ := len3 hl
  have r0 : Reads Try.prog w 3 [a] := field_at hf 0 _ rfl rfl rfl n_int
  have r1 : Reads Try.prog w 4 [b] := field_at hf 1 _ rfl rfl rfl n_bool
  have r2 : Reads Try.prog w 4 [c] := field_at hf 2 _ rfl rfl rfl n_bool
  obtain ⟨n, h0, _⟩ := r0.int Try.underlying3
  obtain ⟨p, h1⟩ := r1.bool Try.underlying4
  obtain ⟨q, h2⟩ := r2.bool Try.underlying4
  cases h0; cases h1; cases h2
  exact ⟨⟨n, p, q⟩, rfl⟩
theorem read_Rest {w : World} {es : List Value} (h : Reads Try.prog w 108 es) : ∃ x : RestD, es = cR x := by
  obtain ⟨hl, hf⟩ := h.struct Try.underlying108
  rw [n_Rest] at hl
  obtain ⟨a, b, rfl⟩ := len2 hl
  have r0 : Reads Try.prog w 3 [a] := field_at hf 0 _ rfl rfl rfl n_int
  have r1 : Reads Try.prog w 4 [b] := field_at hf 1 _ rfl rfl rfl n_bool
  obtain ⟨n, h0, _⟩ := r0.int Try.underlying3
  obtain ⟨p, h1⟩ := r1.bool Try.underlying4
  cases h0; cases h1
  exact ⟨⟨n, p⟩, rfl⟩
theorem b_int : Try.prog.bytesOf 3 = 8 := by kernel_rfl
theorem b_Add : Try.prog.bytesOf 99 = 16 := by kernel_rfl
theorem b_Rest : Try.prog.bytesOf 108 = 16 := by kernel_rfl
theorem reach_is : reachBytes = 140737488351232 := by decide

/-- An open that came in. -/
structure OpenIn (w : World) (o : OpenD) (qf qa qk : Value) : Prop where
  at_ : OpenAt (fun b => b < w.heap.size) w o qf qa qk
  l1 : o.fams.length * 8 ≤ 140737488351232
  l2 : o.adds.length * 16 ≤ 140737488351232
  l3 : o.kept.length * 16 ≤ 140737488351232
  hold : (Lit.int .i64 o.hold).wf = true
  asn : (Lit.int .u32 o.asn).wf = true
theorem read_Open {w : World} {cs : List Value} (h : Reads Try.prog w 32 cs) : ∃ o qf qa qk, cs = (openCells o qf qa qk).toList ∧ OpenIn w o qf qa qk := by
  obtain ⟨hl, hf⟩ := h.struct Try.underlying32
  rw [n_Open] at hl
  obtain ⟨c0, c1, c2, c3, c4, c5, c6, c7, c8, c9, c10, rfl⟩ := len11 hl
  have r0 : Reads Try.prog w 25 [c0] := field_at hf 0 _ rfl rfl rfl n_u32
  have r1 : Reads Try.prog w 3 [c1] := field_at hf 1 _ rfl rfl rfl n_int
  have r2 : Reads Try.prog w 25 [c2] := field_at hf 2 _ rfl rfl rfl n_u32
  have r3 : Reads Try.prog w 26 [c3] := field_at hf 3 _ rfl rfl rfl n_ints
  have r4 : Reads Try.prog w 4 [c4] := field_at hf 4 _ rfl rfl rfl n_bool
  have r5 : Reads Try.prog w 4 [c5] := field_at hf 5 _ rfl rfl rfl n_bool
  have r6 : Reads Try.prog w 29 [c6] := field_at hf 6 _ rfl rfl rfl n_adds
  have r7 : Reads Try.prog w 4 [c7] := field_at hf 7 _ rfl rfl rfl n_bool
  have r8 : Reads Try.prog w 4 [c8] := field_at hf 8 _ rfl rfl rfl n_bool
  have r9 : Reads Try.prog w 3 [c9] := field_at hf 9 _ rfl rfl rfl n_int
  have r10 : Reads Try.prog w 30 [c10] := field_at hf 10 _ rfl rfl rfl n_kept
  obtain ⟨asn, h0, w0⟩ := r0.int Try.underlying25
  obtain ⟨hold, h1, w1⟩ := r1.int Try.underlying3
  obtain ⟨id, h2, _⟩ := r2.int Try.underlying25
  obtain ⟨v3, fams, h3, d3, _, s3⟩ := r3.rd (enc := cI) (Good := fun _ => True) Try.underlying26 n_int (by decide) (fun es _ he => by
    obtain ⟨n, rfl, _⟩ := he.int Try.underlying3
    exact ⟨n, rfl, trivial⟩)
  obtain ⟨four, h4⟩ := r4.bool Try.underlying4
  obtain ⟨refresh, h5⟩ := r5.bool Try.underlying4
  obtain ⟨v6, adds, h6, d6, _, s6⟩ := r6.rd (enc := cA) (Good := fun _ => True) Try.underlying29 n_Add (by decide) (fun es _ he => by
    obtain ⟨x, rfl⟩ := read_Add he
    exact ⟨x, rfl, trivial⟩)
  obtain ⟨hasGR, h7⟩ := r7.bool Try.underlying4
  obtain ⟨again, h8⟩ := r8.bool Try.underlying4
  obtain ⟨time, h9, _⟩ := r9.int Try.underlying3
  obtain ⟨v10, kept, h10, d10, _, s10⟩ := r10.rd (enc := cR) (Good := fun _ => True) Try.underlying30 n_Rest (by decide) (fun es _ he => by
    obtain ⟨x, rfl⟩ := read_Rest he
    exact ⟨x, rfl, trivial⟩)
  rw [b_int, reach_is] at s3
  rw [b_Add, reach_is] at s6
  rw [b_Rest, reach_is] at s10
  cases h0; cases h1; cases h2; cases h3; cases h4; cases h5; cases h6; cases h7; cases h8; cases h9; cases h10
  exact ⟨⟨asn, hold, id, fams, four, refresh, adds, hasGR, again, time, kept⟩, c3, c6, c10, rfl, ⟨d3, d6, d10⟩, s3, s6, s10, w1, w0⟩

/-- An input that came in. -/
structure InpD where
  kd : Int
  o : OpenD
  qf : Value
  qa : Value
  qk : Value
  d : VerD
def cIn (x : InpD) : List Value := (inCells x.kd x.o x.qf x.qa x.qk x.d).toList
structure InpIn (w : World) (x : InpD) : Prop where
  at_ : OpenIn w x.o x.qf x.qa x.qk
  code : 0 ≤ x.d.code
theorem read_Inp {w : World} {cs : List Value} (h : Reads Try.prog w 46 cs) : ∃ x, cs = cIn x ∧ InpIn w x := by
  obtain ⟨hl, hf⟩ := h.struct Try.underlying46
  rw [n_Inp] at hl
  obtain ⟨c0, c1, c2, c3, c4, c5, c6, c7, c8, c9, c10, c11, c12, c13, c14, rfl⟩ := len15 hl
  have r0 : Reads Try.prog w 3 [c0] := field_at hf 0 _ rfl rfl rfl n_int
  have r1 : Reads Try.prog w 32 [c1, c2, c3, c4, c5, c6, c7, c8, c9, c10, c11] := field_at hf 1 _ rfl rfl rfl n_Open
  have r2 : Reads Try.prog w 44 [c12, c13, c14] := field_at hf 2 _ rfl rfl rfl n_Ver
  obtain ⟨kd, h0, _⟩ := r0.int Try.underlying3
  obtain ⟨o, qf, qa, qk, h1, ho⟩ := read_Open r1
  obtain ⟨_, hf2⟩ := r2.struct Try.underlying44
  have q0 : Reads Try.prog w 3 [c12] := field_at hf2 0 _ rfl rfl rfl n_int
  have q1 : Reads Try.prog w 5 [c13] := field_at hf2 1 _ rfl rfl rfl n_u8
  have q2 : Reads Try.prog w 5 [c14] := field_at hf2 2 _ rfl rfl rfl n_u8
  obtain ⟨act, g0, _⟩ := q0.int Try.underlying3
  obtain ⟨code, g1, w1⟩ := q1.int Try.underlying5
  obtain ⟨sub, g2, _⟩ := q2.int Try.underlying5
  cases h0; cases g0; cases g1; cases g2
  refine ⟨⟨kd, o, qf, qa, qk, ⟨act, code, sub⟩⟩, ?_, ho, ?_⟩
  · simp only [openCells] at h1
    simp at h1
    obtain ⟨rfl, rfl, rfl, rfl, rfl, rfl, rfl, rfl, rfl, rfl, rfl⟩ := h1
    rfl
  · simp [Lit.wf, IntKind.min, IntKind.signed] at w1
    exact w1.1
theorem read_Peer {w : World} {cs : List Value} (h : Reads Try.prog w 28 cs) : ∃ p, PeerAt cs.toArray p := by
  obtain ⟨hl, hf⟩ := h.struct Try.underlying28
  rw [n_Peer] at hl
  have one : ∀ {off : Nat} {v : Value}, (cs.drop off).take 1 = [v] → cs[off]? = some v := fun {off v} hv => by
    have := congrArg (fun l : List Value => l[0]?) hv
    simpa using this
  have r3 : Reads Try.prog w 25 ((cs.drop 6).take 1) := field_at hf 3 _ rfl rfl rfl n_u32
  have r5 : Reads Try.prog w 3 ((cs.drop 8).take 1) := field_at hf 5 _ rfl rfl rfl n_int
  have r6 : Reads Try.prog w 4 ((cs.drop 9).take 1) := field_at hf 6 _ rfl rfl rfl n_bool
  obtain ⟨asn, h3, _⟩ := r3.int Try.underlying25
  obtain ⟨retry, h5, _⟩ := r5.int Try.underlying3
  obtain ⟨passive, h6⟩ := r6.bool Try.underlying4
  exact ⟨⟨asn, retry, passive⟩, by simpa using hl, by simpa using one h3, by simpa using one h5, by simpa using one h6⟩
theorem read_Inps {w : World} {cs : List Value} (h : Reads Try.prog w 33 cs) : ∃ v l, cs = [v] ∧ Rd (fun b => b < w.heap.size) w 15 cIn v l ∧ ∀ x ∈ l, InpIn w x := by
  obtain ⟨v, l, h1, h2, h3, _⟩ := h.rd (enc := cIn) (Good := InpIn w) Try.underlying33 n_Inp (by decide) (fun es _ he => read_Inp he)
  exact ⟨v, l, h1, h2, h3⟩
theorem n_Inps : Try.prog.cellsOf 33 = 1 := by kernel_rfl
theorem read_Inps2 {w : World} {cs : List Value} (h : Reads Try.prog w 34 cs) : ∃ v1 v2 l1 l2, cs = [v1, v2] ∧ Rd (fun b => b < w.heap.size) w 15 cIn v1 l1 ∧ (∀ x ∈ l1, InpIn w x) ∧ Rd (fun b => b < w.heap.size) w 15 cIn v2 l2 ∧ ∀ x ∈ l2, InpIn w x := by
  obtain ⟨hl, hf⟩ := h.array Try.underlying34
  have n2 : Try.prog.cellsOf 34 = 2 := by kernel_rfl
  obtain ⟨a, b, rfl⟩ := len2 (hl.trans n2)
  have r0 := item_at hf 0 (by decide) n_Inps
  have r1 := item_at hf 1 (by decide) n_Inps
  obtain ⟨v1, l1, h1, h2, h3⟩ := read_Inps (show Reads Try.prog w 33 [a] from r0)
  obtain ⟨v2, l2, g1, g2, g3⟩ := read_Inps (show Reads Try.prog w 33 [b] from r1)
  cases h1; cases g1
  exact ⟨_, _, l1, l2, rfl, h2, h3, g2, g3⟩
end Go.Proofs.Ytnbopmpbgopafaa
