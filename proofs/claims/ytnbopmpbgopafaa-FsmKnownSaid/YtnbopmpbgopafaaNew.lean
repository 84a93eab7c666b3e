/- fsm: New, State; the law's small makers. -/
import Derived.Test.YtnbopmpbgopafaaDo
namespace Go.Proofs.Ytnbopmpbgopafaa
open Go.RowKit
variable {A : Nat → Prop}

theorem c_State {w : World} {bm : Nat} {st : Int} (h : w.cell? ⟨bm, 35, none⟩ = some (.int .i64 st)) :
    Calls Try.prog 9 #[.pointer (some ⟨bm, 0, none⟩)] w fun e w' => e = .returned (.int .i64 st) ∧ w = w' := by
  by_cases hs : st = 0
  · have e0 : (st == 0) = true := by simp [hs]
    have e1 := Lib.hid hs
    clear hs
    go_enter Try.func9, Try.ntmps9
    go_wp2_with fail
    refine (c_none h).mono ?_
    rintro e w1 ⟨rfl, rfl⟩
    go_wp2
    go_ret
    exact ⟨by rw [e1.out]; rfl, rfl⟩
  · have e0 : (st == 0) = false := by simp [hs]
    clear hs
    go_enter Try.func9, Try.ntmps9
    go_wp2_with fail
    refine (c_none h).mono ?_
    rintro e w1 ⟨rfl, rfl⟩
    go_wp2
    go_ret
    exact ⟨rfl, rfl⟩

structure PeerD where
  asn : Int
  retry : Int
  passive : Bool
  deriving DecidableEq
/-- What New looks at in a peer's cells. -/
structure PeerAt (pc : Array Value) (p : PeerD) : Prop where
  size : pc.size = 23
  asn : pc[6]? = some (.int .u32 p.asn)
  retry : pc[8]? = some (.int .i64 p.retry)
  passive : pc[9]? = some (.bool p.passive)
def newD (p : PeerD) (o : OpenD) : MachD := ⟨p.asn, p.retry, p.passive, o, false, 1, sesNone, openNone⟩
def newOk (p : PeerD) (o : OpenD) : Bool := checkD o && decide (1 ≤ p.retry) && decide (p.retry ≤ 65535)
def NewPost (p : PeerD) (o : OpenD) (w : World) (e : Ending) (w' : World) : Prop :=
  if newOk p o = true then ∃ (bm : Nat) (v : MV) (A2 : Nat → Prop), e = .returned (.tuple #[.pointer (some ⟨bm, 0, none⟩), .int .i64 0]) ∧ w.heap.size ≤ bm ∧ MachAt A2 w' bm (newD p o) v ∧ Below w.heap.size w w' ∧ (∀ k, A2 k → w.heap.size ≤ k)
  else e = .returned (.tuple #[.pointer none, .int .i64 2]) ∧ Below w.heap.size w w'

set_option maxRecDepth 100000 in
set_option maxHeartbeats 2000000 in
theorem c_New {w : World} {pc : Array Value} {p : PeerD} (hp : PeerAt pc p) {o : OpenD} {qf qa qk : Value} (ho : OpenAt A w o qf qa qk)
    (l1 : o.fams.length * 8 ≤ 140737488355328) (l2 : o.adds.length * 16 ≤ 140737488355328) (l3 : o.kept.length * 16 ≤ 140737488355328) :
    Calls Try.prog 8 #[.agg pc, openV o qf qa qk] w fun e w' => NewPost p o w e w' := by
  have HP := Lib.hid hp
  have HO := Lib.hid ho
  have HL := Lib.hid (And.intro l1 (And.intro l2 l3))
  have hsz := hp.size
  clear hp ho l1 l2 l3
  obtain ⟨w2, hw2⟩ : ∃ x, x = (w.alloc (.cells pc 28)).alloc (.cells (openCells o qf qa qk) 32) := ⟨_, rfl⟩
  have r0 : w2.heap[w.heap.size]? = some (.cells pc 28 (0, 0)) := by rw [hw2]; exact heap_old1 (heap_new1 _ _ _ rfl)
  have r1 : w2.heap[w.heap.size + 1]? = some (.cells (openCells o qf qa qk) 32 (0, 0)) := by rw [hw2]; exact heap_new1 _ _ _ (by simp)
  have b2 : Below w.heap.size w w2 := by rw [hw2]; exact ((Below.refl _ _).alloc (Nat.le_refl _) _).alloc (by simp) _
  have R := Lib.hid (And.intro r0 (And.intro r1 b2))
  have c0 := row_cell r0
  have c1 := row_cell r1
  clear r0 r1 b2 hsz
  unfold openV
  go_enter Try.func8, Try.ntmps8
  go_wp2_with fail
  rw [← hw2]
  clear hw2
  refine (c_Check (HO.out.below R.out.2.2)).mono ?_
  rintro e w3 ⟨rfl, hb3⟩
  have B3 := Lib.hid (R.out.2.2.trans (hb3.mono R.out.2.2.size))
  have R3 := Lib.hid (And.intro (below_row hb3 R.out.1) (below_row hb3 R.out.2.1))
  clear c0 c1 hb3
  have c8 : w3.cell? ⟨w.heap.size, 8, none⟩ = some (.int .i64 p.retry) := by rw [row_cell R3.out.1]; exact HP.out.retry
  have c1 := row_cell R3.out.2
  by_cases hc : checkD o = true
  · have hN : chkN o = 0 := if_pos hc
    by_cases h1 : 1 ≤ p.retry
    · by_cases h2 : p.retry ≤ 65535
      · have hok := Lib.hid (show newOk p o = true by simp [newOk, hc, h1, h2])
        have t1 : decide (p.retry < 1) = false := by simp; omega
        have t2 : decide (65535 < p.retry) = false := by simp; omega
        have t3 : decide (p.retry > 65535) = false := by simp; omega
        clear hc
        go_wp2_with fail
        have c6 : w3.cell? ⟨w.heap.size, 6, none⟩ = some (.int .u32 p.asn) := by rw [row_cell R3.out.1]; exact HP.out.asn
        have c9 : w3.cell? ⟨w.heap.size, 9, none⟩ = some (.bool p.passive) := by rw [row_cell R3.out.1]; exact HP.out.passive
        refine wp_region_K2 [] (fun W : World => W.cell? ⟨w.heap.size, 6, none⟩ = some (.int .u32 p.asn) ∧ W.cell? ⟨w.heap.size, 8, none⟩ = some (.int .i64 p.retry) ∧ W.cell? ⟨w.heap.size, 9, none⟩ = some (.bool p.passive) ∧ W.heap[w.heap.size + 1]? = some (.cells (openCells o qf qa qk) 32 (0, 0))) (fun _ => True) rfl ⟨c6, c8, c9, R3.out.2⟩ trivial (fun hS0 _ => ?_)
        have HS0 := Lib.hid hS0
        clear hS0 c6 c8 c9 c1 h1 h2 t1 t2 t3 hN
        refine wpAnyK_take 0 (v := ?_) rfl (by kernel_rfl) (fun _ _ _ h => h) (.inl ⟨by rfl, ?_⟩) HS0.out ?_
        rotate_left
        · intro w hS; clear hS; go_simp; with_reducible rfl
        refine wpAnyK_take 1 (v := .int .u32 p.asn) rfl (by kernel_rfl) (fun _ _ _ h => h) (.inl ⟨by rfl, fun w hS => ?_⟩) HS0.out ?_
        · obtain ⟨g6, g8, g9, g1⟩ := hS; go_simp
        refine wpAnyK_take 2 (v := ?_) rfl (by kernel_rfl) (fun _ _ _ h => h) (.inl ⟨by rfl, ?_⟩) HS0.out ?_
        rotate_left
        · intro w hS; clear hS; go_simp; with_reducible rfl
        refine wpAnyK_take 3 (v := .int .i64 p.retry) rfl (by kernel_rfl) (fun _ _ _ h => h) (.inl ⟨by rfl, fun w hS => ?_⟩) HS0.out ?_
        · obtain ⟨g6, g8, g9, g1⟩ := hS; go_simp
        refine wpAnyK_take 4 (v := ?_) rfl (by kernel_rfl) (fun _ _ _ h => h) (.inl ⟨by rfl, ?_⟩) HS0.out ?_
        rotate_left
        · intro w hS; clear hS; go_simp; with_reducible rfl
        refine wpAnyK_take 5 (v := .bool p.passive) rfl (by kernel_rfl) (fun _ _ _ h => h) (.inl ⟨by rfl, fun w hS => ?_⟩) HS0.out ?_
        · obtain ⟨g6, g8, g9, g1⟩ := hS; go_simp
        refine wpAnyK_take 6 (v := ?_) rfl (by kernel_rfl) (fun _ _ _ h => h) (.inl ⟨by rfl, ?_⟩) HS0.out ?_
        rotate_left
        · intro w hS; clear hS; go_simp; with_reducible rfl
        refine wpAnyK_take 7 (v := .agg (openCells o qf qa qk)) rfl (by kernel_rfl) (fun _ _ _ h => h) (.inl ⟨by rfl, fun w hS => ?_⟩) HS0.out ?_
        · obtain ⟨g6, g8, g9, hr⟩ := hS; have k0 := row_cell hr; clear hr g6 g8 g9; go_simp
        refine wpAnyK_one 8 (by kernel_rfl) rfl (by rfl) (fun K' hK => ?_)
        go_wp2_with fail
        refine (c_own ((HO.out.below B3.out).below (Below.refl _ _).drew) HL.out.1 HL.out.2.1 HL.out.2.2).mono ?_
        rintro e w4 ⟨fa, fc, aa, ac, ka, kc, rfl, of_, oa_, ok_, hb4⟩
        have HB4 := Lib.hid ((B3.out.drew).trans (hb4.mono B3.out.size))
        have OW := Lib.hid (And.intro of_ (And.intro oa_ ok_))
        have b34 := Lib.hid hb4
        clear of_ oa_ ok_ hb4
        have HS1 := Lib.hid (show ((fun W : World => W.cell? ⟨w.heap.size, 6, none⟩ = some (.int .u32 p.asn) ∧ W.cell? ⟨w.heap.size, 8, none⟩ = some (.int .i64 p.retry) ∧ W.cell? ⟨w.heap.size, 9, none⟩ = some (.bool p.passive) ∧ W.heap[w.heap.size + 1]? = some (.cells (openCells o qf qa qk) 32 (0, 0))) w4) from
          ⟨by rw [b34.out.cell (World.block_lt_of_cell? _ _ HS0.out.1)]; exact HS0.out.1, by rw [b34.out.cell (World.block_lt_of_cell? _ _ HS0.out.2.1)]; exact HS0.out.2.1, by rw [b34.out.cell (World.block_lt_of_cell? _ _ HS0.out.2.2.1)]; exact HS0.out.2.2.1, below_row b34.out HS0.out.2.2.2⟩)
        go_wp2_with fail
        refine stillS HS1.out (fun _ => ?_)
        refine wpAnyK_take 9 (v := ?_) rfl (by kernel_rfl) (fun _ _ _ h => h) (.inl ⟨by rfl, ?_⟩) HS1.out ?_
        rotate_left
        · intro w hS; clear hS; go_simp; with_reducible rfl
        refine wpAnyK_one 10 (by kernel_rfl) rfl (by rfl) (fun K' hK => ?_)
        have HN := Lib.hid (show (w4.alloc (.cells (machCells (newD p o) (⟨.slice fa o.fams.length fc, .slice aa o.adds.length ac, .slice ka o.kept.length kc, .slice none 0 0, .slice none 0 0, .slice none 0 0, .slice none 0 0, .slice none 0 0, .slice none 0 0, .slice none 0 0⟩ : MV)) 76)).heap[w4.heap.size]? = some (.cells (machCells (newD p o) (⟨.slice fa o.fams.length fc, .slice aa o.adds.length ac, .slice ka o.kept.length kc, .slice none 0 0, .slice none 0 0, .slice none 0 0, .slice none 0 0, .slice none 0 0, .slice none 0 0, .slice none 0 0⟩ : MV)) 76 (0, 0)) from heap_new1 _ _ _ rfl)
        have HS2 := Lib.hid (show ((fun W : World => W.cell? ⟨w.heap.size, 6, none⟩ = some (.int .u32 p.asn) ∧ W.cell? ⟨w.heap.size, 8, none⟩ = some (.int .i64 p.retry) ∧ W.cell? ⟨w.heap.size, 9, none⟩ = some (.bool p.passive) ∧ W.heap[w.heap.size + 1]? = some (.cells (openCells o qf qa qk) 32 (0, 0))) (w4.alloc (.cells (machCells (newD p o) (⟨.slice fa o.fams.length fc, .slice aa o.adds.length ac, .slice ka o.kept.length kc, .slice none 0 0, .slice none 0 0, .slice none 0 0, .slice none 0 0, .slice none 0 0, .slice none 0 0, .slice none 0 0⟩ : MV)) 76))) from
          ⟨cell_alloc_keep HS1.out.1, cell_alloc_keep HS1.out.2.1, cell_alloc_keep HS1.out.2.2.1, heap_old1 HS1.out.2.2.2⟩)
        go_wp2_with fail
        refine stillS HS2.out (fun _ => ?_)
        refine wpAnyK_take 11 (v := ?_) rfl (by kernel_rfl) (fun _ _ _ h => h) (.inl ⟨by rfl, ?_⟩) HS2.out ?_
        rotate_left
        · intro w hS; clear hS; go_simp; with_reducible rfl
        refine wpAnyK_take 12 (v := ?_) rfl (by kernel_rfl) (fun _ _ _ h => h) (.inl ⟨by rfl, ?_⟩) HS2.out ?_
        rotate_left
        · intro w hS; clear hS; go_simp; with_reducible rfl
        refine wpAnyK_done (by kernel_rfl) ?_
        have hz4 := HB4.out.size
        have hz34 := b34.out.size
        have hz3 := B3.out.size
        go_wp2
        refine bodyPost_ret (v := .tuple #[.pointer (some ⟨w4.heap.size, 0, none⟩), .int .i64 0]) (by simp [results, Try.results8, go_sem]) rfl ?_
        unfold NewPost
        rw [if_pos hok.out]
        have bd := (Below.refl w4.heap.size w4).alloc (Nat.le_refl _) (.cells (machCells (newD p o) (⟨.slice fa o.fams.length fc, .slice aa o.adds.length ac, .slice ka o.kept.length kc, .slice none 0 0, .slice none 0 0, .slice none 0 0, .slice none 0 0, .slice none 0 0, .slice none 0 0, .slice none 0 0⟩ : MV)) 76)
        refine ⟨w4.heap.size, (⟨.slice fa o.fams.length fc, .slice aa o.adds.length ac, .slice ka o.kept.length kc, .slice none 0 0, .slice none 0 0, .slice none 0 0, .slice none 0 0, .slice none 0 0, .slice none 0 0, .slice none 0 0⟩ : MV), fun b => w.heap.size ≤ b ∧ b < w4.heap.size, rfl, hz4, ⟨HN.out, ⟨⟨?_, ?_, ?_⟩, SesAt.none _ _, OpenAt.none _ _⟩, ?_, by simp [newD, sesNone], by simp [newD]⟩, HB4.out.trans (bd.mono hz4), fun k hk => hk.1⟩
        · exact ((OW.out.1.below bd).rd cod_I).mono (fun k hk => ⟨by have := hk.1; simp at this; omega, (Ow.lt OW.out.1 k hk.2.2).2⟩)
        · exact ((OW.out.2.1.below bd).rd cod_A).mono (fun k hk => ⟨by have := hk.1; simp at this; omega, (Ow.lt OW.out.2.1 k hk.2.2).2⟩)
        · exact ((OW.out.2.2.below bd).rd cod_R).mono (fun k hk => ⟨by have := hk.1; simp at this; omega, (Ow.lt OW.out.2.2 k hk.2.2).2⟩)
        · intro k hk; exact ⟨by simp; omega, by omega⟩
      · have hno : ¬ newOk p o = true := by simp [newOk]; intro _ _; omega
        have hgt : 65535 < p.retry := by omega
        clear hc h2
        go_wp2
        refine bodyPost_ret (v := .tuple #[.pointer none, .int .i64 2]) (by simp [results, Try.results8, go_sem]) rfl ?_
        unfold NewPost
        rw [if_neg hno]
        exact ⟨rfl, B3.out⟩
    · have hno : ¬ newOk p o = true := by simp [newOk]; intro _ _; omega
      have hlt : p.retry < 1 := by omega
      clear hc h1
      go_wp2
      refine bodyPost_ret (v := .tuple #[.pointer none, .int .i64 2]) (by simp [results, Try.results8, go_sem]) rfl ?_
      unfold NewPost
      rw [if_neg hno]
      exact ⟨rfl, B3.out⟩
  · have hno : ¬ newOk p o = true := by simp [newOk, hc]
    have hN : chkN o = 2 := if_neg hc
    clear hc
    go_wp2
    refine bodyPost_ret (v := .tuple #[.pointer none, .int .i64 2]) (by simp [results, Try.results8, go_sem]) rfl ?_
    unfold NewPost
    rw [if_neg hno]
    exact ⟨rfl, B3.out⟩
end Go.Proofs.Ytnbopmpbgopafaa
