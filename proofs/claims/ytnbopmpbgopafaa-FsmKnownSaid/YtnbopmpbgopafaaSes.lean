/- fsm: ownSession, has, Session, Theirs. -/
import Derived.Test.YtnbopmpbgopafaaPlain
namespace Go.Proofs.Ytnbopmpbgopafaa
open Go.RowKit
variable {A : Nat → Prop}

def SOwn4 (b : Nat) (v1 v4 v5 v9 : Value) (w : World) : Prop := w.cell? ⟨b, 1, none⟩ = some v1 ∧ w.cell? ⟨b, 4, none⟩ = some v4 ∧ w.cell? ⟨b, 5, none⟩ = some v5 ∧ w.cell? ⟨b, 9, none⟩ = some v9
theorem SOwn4.below {b : Nat} {v1 v4 v5 v9 : Value} {w w1 : World} (h : SOwn4 b v1 v4 v5 v9 w) (hb : Below w.heap.size w w1) : SOwn4 b v1 v4 v5 v9 w1 := by
  obtain ⟨h1, h2, h3, h4⟩ := h
  exact ⟨by rw [hb.cell (World.block_lt_of_cell? w _ h1)]; exact h1, by rw [hb.cell (World.block_lt_of_cell? w _ h2)]; exact h2, by rw [hb.cell (World.block_lt_of_cell? w _ h3)]; exact h3, by rw [hb.cell (World.block_lt_of_cell? w _ h4)]; exact h4⟩

/-- A session of slices of the call's own. -/
structure SesOw (B : Nat) (w : World) (s : SesD) (fv sv tv kv : Value) : Prop where
  fams : Ow B w 3 1 cI fv s.fams
  send : Ow B w 3 1 cI sv s.send
  take : Ow B w 3 1 cI tv s.take
  kept : Ow B w 108 2 cR kv s.kept
theorem SesOw.keeps {B : Nat} {A' : Nat → Prop} {w w' : World} {s : SesD} {fv sv tv kv : Value} (h : SesOw B w s fv sv tv kv) (hk : Keeps A' w w') (hA : ∀ k, B ≤ k → k < w.heap.size → A' k) : SesOw B w' s fv sv tv kv :=
  ⟨h.fams.keeps hk (fun k e => hA k (Ow.lt h.fams k e).1 (Ow.lt h.fams k e).2), h.send.keeps hk (fun k e => hA k (Ow.lt h.send k e).1 (Ow.lt h.send k e).2), h.take.keeps hk (fun k e => hA k (Ow.lt h.take k e).1 (Ow.lt h.take k e).2), h.kept.keeps hk (fun k e => hA k (Ow.lt h.kept k e).1 (Ow.lt h.kept k e).2)⟩
theorem SesOw.below {B : Nat} {w w' : World} {s : SesD} {fv sv tv kv : Value} (h : SesOw B w s fv sv tv kv) (hk : Below w.heap.size w w') : SesOw B w' s fv sv tv kv :=
  h.keeps (A' := fun _ => True) (Keeps.of_below hk) (fun _ _ _ => trivial)
theorem SesOw.mono {B B' : Nat} {w : World} {s : SesD} {fv sv tv kv : Value} (h : SesOw B w s fv sv tv kv) (hB : B' ≤ B) : SesOw B' w s fv sv tv kv :=
  ⟨h.fams.mono hB, h.send.mono hB, h.take.mono hB, h.kept.mono hB⟩

set_option maxRecDepth 100000 in
set_option maxHeartbeats 1000000 in
theorem c_ownSession {w : World} {s : SesD} {fv sv tv kv : Value} (h : SesAt A w s fv sv tv kv) (hl : s.fams.length ≤ 1000) (hl2 : s.send.length ≤ 1000) (hl3 : s.take.length ≤ 1000) (hl4 : s.kept.length ≤ 1000) :
    Calls Try.prog 34 #[sesV s fv sv tv kv] w fun e w' => ∃ fa fc sa sc ra rc ka kc, e = .returned (sesV s (.slice fa s.fams.length fc) (.slice sa s.send.length sc) (.slice ra s.take.length rc) (.slice ka s.kept.length kc)) ∧
      SesOw w.heap.size w' s (.slice fa s.fams.length fc) (.slice sa s.send.length sc) (.slice ra s.take.length rc) (.slice ka s.kept.length kc) ∧ Below w.heap.size w w' := by
  obtain ⟨hf, hs, ht, hk⟩ := h
  have HF := Lib.hid hf
  have HS := Lib.hid hs
  have HT := Lib.hid ht
  have HK := Lib.hid hk
  obtain ⟨fa, fc, rfl, _, _, _⟩ := hf.open
  obtain ⟨sa, sc, rfl, _, _, _⟩ := hs.open
  obtain ⟨ra, rc, rfl, _, _, _⟩ := ht.open
  obtain ⟨ka, kc, rfl, _, _, _⟩ := hk.open
  clear hf hs ht hk
  have HL := Lib.hid (And.intro hl (And.intro hl2 (And.intro hl3 hl4)))
  clear hl hl2 hl3 hl4
  go_enter Try.func34, Try.ntmps34
  go_wp2
  refine wp_region_K2 [13, 15, 17, 19] (SOwn4 w.heap.size (.slice fa s.fams.length fc) (.slice sa s.send.length sc) (.slice ra s.take.length rc) (.slice ka s.kept.length kc)) (fun W => Below w.heap.size w W ∧ W.heap[w.heap.size]? = some (.cells (sesCells s (.slice fa s.fams.length fc) (.slice sa s.send.length sc) (.slice ra s.take.length rc) (.slice ka s.kept.length kc)) 54 (0, 0)) ∧ W.heap[w.heap.size + 1]? = some (.cells sesZero 54 (0, 0))) rfl ⟨by simp, by simp, by simp, by simp⟩ ⟨(((Below.refl _ _).alloc (Nat.le_refl _) _).alloc (by simp) _).drew, heap_old1 (heap_new1 _ _ _ rfl), heap_new1 _ _ _ (by simp)⟩ (fun hS0 hB0 => ?_)
  obtain ⟨hB0, hr0, hs0⟩ := hB0
  have HB0 := Lib.hid hB0
  have HR0 := Lib.hid hr0
  have HS0 := Lib.hid hs0
  clear hB0 hr0 hs0
  refine wpAnyK_take 0 (v := ?_) rfl (by kernel_rfl) (fun _ _ _ h => h) (.inl ⟨by rfl, ?_⟩) hS0 ?_
  rotate_left
  · intro w hS; clear hS; go_simp; with_reducible rfl
  refine wpAnyK_take 1 (v := .slice fa s.fams.length fc) rfl (by kernel_rfl) (fun _ _ _ h => h) (.inl ⟨by rfl, fun w hS => ?_⟩) hS0 ?_
  · obtain ⟨h1, h2, h3, h4⟩ := hS; go_simp
  refine wpAnyK_take 3 (v := ?_) rfl (by kernel_rfl) (fun _ _ _ h => h) (.inl ⟨by rfl, ?_⟩) hS0 ?_
  rotate_left
  · intro w hS; clear hS; go_simp; with_reducible rfl
  refine wpAnyK_take 4 (v := .slice sa s.send.length sc) rfl (by kernel_rfl) (fun _ _ _ h => h) (.inl ⟨by rfl, fun w hS => ?_⟩) hS0 ?_
  · obtain ⟨h1, h2, h3, h4⟩ := hS; go_simp
  refine wpAnyK_take 6 (v := ?_) rfl (by kernel_rfl) (fun _ _ _ h => h) (.inl ⟨by rfl, ?_⟩) hS0 ?_
  rotate_left
  · intro w hS; clear hS; go_simp; with_reducible rfl
  refine wpAnyK_take 7 (v := .slice ra s.take.length rc) rfl (by kernel_rfl) (fun _ _ _ h => h) (.inl ⟨by rfl, fun w hS => ?_⟩) hS0 ?_
  · obtain ⟨h1, h2, h3, h4⟩ := hS; go_simp
  refine wpAnyK_take 9 (v := ?_) rfl (by kernel_rfl) (fun _ _ _ h => h) (.inl ⟨by rfl, ?_⟩) hS0 ?_
  rotate_left
  · intro w hS; clear hS; go_simp; with_reducible rfl
  refine wpAnyK_take 10 (v := .slice ka s.kept.length kc) rfl (by kernel_rfl) (fun _ _ _ h => h) (.inl ⟨by rfl, fun w hS => ?_⟩) hS0 ?_
  · obtain ⟨h1, h2, h3, h4⟩ := hS; go_simp
  refine wpAnyK_one 2 (by kernel_rfl) rfl (by rfl) (fun K' hK => ?_)
  go_wp2_with fail
  refine (c_CloneI (HF.out.below HB0.out) (by have := HL.out.1; omega)).mono ?_
  rintro e w1 ⟨a1, c1, rfl, ho1, hb1⟩
  go_wp2_with fail
  refine stillS (hS0.below hb1) (fun hS1 => ?_)
  have HB1 := Lib.hid (HB0.out.trans (hb1.mono HB0.out.size))
  refine wpAnyK_take 12 (v := ?_) rfl (by kernel_rfl) (fun _ _ _ h => h) (.inl ⟨by rfl, ?_⟩) hS1 ?_
  rotate_left
  · intro w hS; clear hS; go_simp; with_reducible rfl
  refine wpAnyK_one 5 (by kernel_rfl) rfl (by rfl) (fun K' hK => ?_)
  go_wp2_with fail
  refine (c_CloneI (HS.out.below HB1.out) (by have := HL.out.2.1; omega)).mono ?_
  rintro e w2 ⟨a2, c2, rfl, ho2, hb2⟩
  go_wp2_with fail
  refine stillS (hS1.below hb2) (fun hS2 => ?_)
  have HB2 := Lib.hid (HB1.out.trans (hb2.mono HB1.out.size))
  refine wpAnyK_one 8 (by kernel_rfl) rfl (by rfl) (fun K' hK => ?_)
  go_wp2_with fail
  refine (c_CloneI (HT.out.below HB2.out) (by have := HL.out.2.2.1; omega)).mono ?_
  rintro e w3 ⟨a3, c3, rfl, ho3, hb3⟩
  go_wp2_with fail
  refine stillS (hS2.below hb3) (fun hS3 => ?_)
  have HB3 := Lib.hid (HB2.out.trans (hb3.mono HB2.out.size))
  refine wpAnyK_one 11 (by kernel_rfl) rfl (by rfl) (fun K' hK => ?_)
  go_wp2_with fail
  refine (c_CloneR (HK.out.below HB3.out) (by have := HL.out.2.2.2; omega)).mono ?_
  rintro e w4 ⟨a4, c4, rfl, ho4, hb4⟩
  go_wp2_with fail
  refine stillS (hS3.below hb4) (fun hS4 => ?_)
  have HB4 := Lib.hid (HB3.out.trans (hb4.mono HB3.out.size))
  have hr4 := below_row hb4 (below_row hb3 (below_row hb2 (below_row hb1 HR0.out)))
  have hs4 := below_row hb4 (below_row hb3 (below_row hb2 (below_row hb1 HS0.out)))
  have kc := row_cell hr4
  have kf := row_free hr4
  have lc := row_cell hs4
  have lf := row_free hs4
  have HR4 := Lib.hid hr4
  have HS4 := Lib.hid hs4
  clear hr4 hs4 hS0 hS1 hS2 hS3 hS4
  refine wpAnyK_one 13 (by kernel_rfl) rfl (by rfl) (fun K' hK => ?_)
  go_wp2_with fail
  refine deadS (by kernel_rfl) ?_
  refine wpAnyK_one 14 (by kernel_rfl) rfl (by rfl) (fun K' hK => ?_)
  go_wp2_with fail
  refine deadS (by kernel_rfl) ?_
  refine wpAnyK_one 15 (by kernel_rfl) rfl (by rfl) (fun K' hK => ?_)
  go_wp2_with fail
  refine deadS (by kernel_rfl) ?_
  refine wpAnyK_one 16 (by kernel_rfl) rfl (by rfl) (fun K' hK => ?_)
  go_wp2_with fail
  refine deadS (by kernel_rfl) ?_
  refine wpAnyK_one 17 (by kernel_rfl) rfl (by rfl) (fun K' hK => ?_)
  go_wp2_with fail
  refine deadS (by kernel_rfl) ?_
  refine wpAnyK_one 18 (by kernel_rfl) rfl (by rfl) (fun K' hK => ?_)
  go_wp2_with fail
  refine deadS (by kernel_rfl) ?_
  refine wpAnyK_one 19 (by kernel_rfl) rfl (by rfl) (fun K' hK => ?_)
  go_wp2_with fail
  refine deadS (by kernel_rfl) ?_
  refine wpAnyK_done (by kernel_rfl) ?_
  go_wp2
  refine bodyPost_ret (v := sesV s (.slice a1 s.fams.length c1) (.slice a2 s.send.length c2) (.slice a3 s.take.length c3) (.slice a4 s.kept.length c4)) (by simp [results, Try.results34, go_sem, lc, kc]) rfl ⟨a1, c1, a2, c2, a3, c3, a4, c4, rfl, ?_, ?_⟩
  rotate_right
  · repeat refine Below.setCell ?_ (by simp) _
    exact HB4.out
  · have z1 := hb1.size
    have z2 := hb2.size
    have z3 := hb3.size
    simp at z1
    refine SesOw.keeps (A' := fun k => k ≠ w.heap.size ∧ k ≠ w.heap.size + 1) (B := w.heap.size + 2) ⟨(((ho1.below hb2).below hb3).below hb4).mono (by simp), ((ho2.below hb3).below hb4).mono (by omega), (ho3.below hb4).mono (by omega), ho4.mono (by omega)⟩ ?_ (fun k h1 _ => ⟨by omega, by omega⟩) |>.mono (by omega)
    repeat refine Keeps.setCell ?_ (by simp) _
    exact Keeps.refl _ _

theorem c_has {w : World} {bm : Nat} {st : Int} (h : w.cell? ⟨bm, 35, none⟩ = some (.int .i64 st)) (h1 : 1 ≤ st) :
    Calls Try.prog 33 #[.pointer (some ⟨bm, 0, none⟩)] w fun e w' => e = .returned (.bool (decide (5 ≤ st))) ∧ w = w' := by
  have e0 : (st == 0) = false := by simp; omega
  by_cases h5 : 5 ≤ st
  · have hd := Lib.hid (show decide (5 ≤ st) = true by simp [h5])
    have hg : st ≥ 5 := h5
    go_enter Try.func33, Try.ntmps33
    go_wp2_with fail
    refine (c_none h).mono ?_
    rintro e w1 ⟨rfl, rfl⟩
    go_wp2
    go_ret
    exact ⟨by rw [hd.out]; rfl, rfl⟩
  · have hd := Lib.hid (show decide (5 ≤ st) = false by simp [h5])
    have hg : ¬ st ≥ 5 := h5
    have hlt : st < 5 := by omega
    go_enter Try.func33, Try.ntmps33
    go_wp2_with fail
    refine (c_none h).mono ?_
    rintro e w1 ⟨rfl, rfl⟩
    go_wp2
    go_ret
    exact ⟨by rw [hd.out]; rfl, rfl⟩

/-- What Session and Theirs tell. -/
def sesOut (m : MachD) : SesD := if 5 ≤ m.state then m.ses else sesNone
def theirsOut (m : MachD) : OpenD := if 5 ≤ m.state then m.theirs else openNone
/-- No list of the session is great. -/
structure Small (m : MachD) : Prop where
  sf : m.ses.fams.length ≤ 1000
  ss : m.ses.send.length ≤ 1000
  st : m.ses.take.length ≤ 1000
  sk : m.ses.kept.length ≤ 1000
  tf : m.theirs.fams.length ≤ 1000
  ta : m.theirs.adds.length ≤ 1000
  tk : m.theirs.kept.length ≤ 1000
def SesTold (w : World) (s : SesD) (b : Bool) (e : Ending) (w' : World) : Prop :=
  ∃ fa fc sa sc ra rc ka kc, e = .returned (.tuple #[sesV s (.slice fa s.fams.length fc) (.slice sa s.send.length sc) (.slice ra s.take.length rc) (.slice ka s.kept.length kc), .bool b]) ∧
    SesOw w.heap.size w' s (.slice fa s.fams.length fc) (.slice sa s.send.length sc) (.slice ra s.take.length rc) (.slice ka s.kept.length kc) ∧ Below w.heap.size w w'

set_option maxRecDepth 100000 in
set_option maxHeartbeats 1000000 in
theorem c_SessionM {base : Nat} {S : Nat → Prop} {w : World} {bm : Nat} {m : MachD} (hm : Mach base S w bm m) (hs : Small m) :
    Calls Try.prog 12 #[.pointer (some ⟨bm, 0, none⟩)] w (SesTold w (sesOut m) (decide (5 ≤ m.state))) := by
  have hst := hm.state
  have hbm := hm.lt.2
  obtain ⟨_, A, v, hma, _⟩ := hm
  have h1 := hma.st
  have HM := Lib.hid hma
  have c0 := row_cell hma.row
  clear hma
  have hc := c_has (cell_alloc_keep (o := .cells sesZero 54) hst) h1
  by_cases h5 : 5 ≤ m.state
  · have hd : decide (5 ≤ m.state) = true := by simp [h5]
    have HO : sesOut m = m.ses := if_pos h5
    rw [HO]
    rw [hd] at hc ⊢
    clear HO hd h5 h1 hst
    go_enter Try.func12, Try.ntmps12
    go_wp2_with fail
    refine hc.mono ?_
    rintro e w1 ⟨rfl, rfl⟩
    clear hc
    go_wp2_with fail
    refine (c_ownSession (A := A) (HM.out.held.ses.keeps (A' := A) (Keeps.refl _ _ |>.alloc _) (fun _ h => h)) hs.sf hs.ss hs.st hs.sk).mono ?_
    rintro e w1 ⟨fa, fc, sa, sc, ra, rc, ka, kc, rfl, ho, hb⟩
    have r1 := below_row hb (heap_new1 w (.cells sesZero 54) _ rfl)
    have lc := row_cell r1
    have lf := row_free r1
    have HO := Lib.hid ho
    have HB := Lib.hid hb
    have hsz := hb.size
    simp at hsz
    clear ho hb r1 c0
    go_wp2
    refine bodyPost_ret (v := .tuple #[sesV m.ses (.slice fa m.ses.fams.length fc) (.slice sa m.ses.send.length sc) (.slice ra m.ses.take.length rc) (.slice ka m.ses.kept.length kc), .bool true]) (by simp [results, Try.results12, go_sem, lc]) rfl ⟨fa, fc, sa, sc, ra, rc, ka, kc, rfl, ?_, ?_⟩
    · refine SesOw.mono (B := w.heap.size + 1) ?_ (by omega)
      refine SesOw.keeps (A' := fun k => k ≠ w.heap.size) (HO.out.mono (by simp)) ?_ (fun k h1 _ => by omega)
      repeat refine Keeps.setCell ?_ (by simp) _
      exact Keeps.refl _ _
    · repeat refine Below.setCell ?_ (by simp) _
      exact below_of_alloc HB.out (by simp)
  · have hd : decide (5 ≤ m.state) = false := by simp [h5]
    have HO : sesOut m = sesNone := if_neg h5
    rw [HO]
    rw [hd] at hc ⊢
    clear HO hd h5 h1 hst
    go_enter Try.func12, Try.ntmps12
    go_wp2_with fail
    refine hc.mono ?_
    rintro e w1 ⟨rfl, rfl⟩
    clear hc
    go_wp2
    refine bodyPost_ret (v := .tuple #[sesV sesNone nilS nilS nilS nilS, .bool false]) (by simp [results, Try.results12, go_sem, sesNone]) rfl ⟨none, 0, none, 0, none, 0, none, 0, rfl, ⟨World.ownsRow_nil _ _ _ _, World.ownsRow_nil _ _ _ _, World.ownsRow_nil _ _ _ _, World.ownsRow_nil _ _ _ _⟩, ?_⟩
    exact (Below.refl _ _).alloc (Nat.le_refl _) _

/-- An open of slices of the call's own. -/
structure OpenOw (B : Nat) (w : World) (o : OpenD) (fv av kv : Value) : Prop where
  fams : Ow B w 3 1 cI fv o.fams
  adds : Ow B w 99 3 cA av o.adds
  kept : Ow B w 108 2 cR kv o.kept
theorem OpenOw.keeps {B : Nat} {A' : Nat → Prop} {w w' : World} {o : OpenD} {fv av kv : Value} (h : OpenOw B w o fv av kv) (hk : Keeps A' w w') (hA : ∀ k, B ≤ k → k < w.heap.size → A' k) : OpenOw B w' o fv av kv :=
  ⟨h.fams.keeps hk (fun k e => hA k (Ow.lt h.fams k e).1 (Ow.lt h.fams k e).2), h.adds.keeps hk (fun k e => hA k (Ow.lt h.adds k e).1 (Ow.lt h.adds k e).2), h.kept.keeps hk (fun k e => hA k (Ow.lt h.kept k e).1 (Ow.lt h.kept k e).2)⟩
theorem OpenOw.below {B : Nat} {w w' : World} {o : OpenD} {fv av kv : Value} (h : OpenOw B w o fv av kv) (hk : Below w.heap.size w w') : OpenOw B w' o fv av kv :=
  h.keeps (A' := fun _ => True) (Keeps.of_below hk) (fun _ _ _ => trivial)
theorem OpenOw.mono {B B' : Nat} {w : World} {o : OpenD} {fv av kv : Value} (h : OpenOw B w o fv av kv) (hB : B' ≤ B) : OpenOw B' w o fv av kv :=
  ⟨h.fams.mono hB, h.adds.mono hB, h.kept.mono hB⟩
def OpenTold (w : World) (o : OpenD) (b : Bool) (e : Ending) (w' : World) : Prop :=
  ∃ fa fc aa ac ka kc, e = .returned (.tuple #[openV o (.slice fa o.fams.length fc) (.slice aa o.adds.length ac) (.slice ka o.kept.length kc), .bool b]) ∧
    OpenOw w.heap.size w' o (.slice fa o.fams.length fc) (.slice aa o.adds.length ac) (.slice ka o.kept.length kc) ∧ Below w.heap.size w w'

set_option maxRecDepth 100000 in
set_option maxHeartbeats 1000000 in
theorem c_TheirsM {base : Nat} {S : Nat → Prop} {w : World} {bm : Nat} {m : MachD} (hm : Mach base S w bm m) (hs : Small m) :
    Calls Try.prog 13 #[.pointer (some ⟨bm, 0, none⟩)] w (OpenTold w (theirsOut m) (decide (5 ≤ m.state))) := by
  have hst := hm.state
  have hbm := hm.lt.2
  obtain ⟨_, A, v, hma, _⟩ := hm
  have h1 := hma.st
  have HM := Lib.hid hma
  have c0 := row_cell hma.row
  clear hma
  have hc := c_has (cell_alloc_keep (o := .cells openZero 32) hst) h1
  by_cases h5 : 5 ≤ m.state
  · have hd : decide (5 ≤ m.state) = true := by simp [h5]
    have HO : theirsOut m = m.theirs := if_pos h5
    rw [HO]
    rw [hd] at hc ⊢
    clear HO hd h5 h1 hst
    go_enter Try.func13, Try.ntmps13
    go_wp2_with fail
    refine hc.mono ?_
    rintro e w1 ⟨rfl, rfl⟩
    clear hc
    go_wp2_with fail
    refine (c_own (A := A) (HM.out.held.theirs.keeps (A' := A) (Keeps.refl _ _ |>.alloc _) (fun _ h => h)) (by have := hs.tf; omega) (by have := hs.ta; omega) (by have := hs.tk; omega)).mono ?_
    rintro e w1 ⟨fa, fc, aa, ac, ka, kc, rfl, hof, hoa, hok, hb⟩
    have r1 := below_row hb (heap_new1 w (.cells openZero 32) _ rfl)
    have lc := row_cell r1
    have lf := row_free r1
    have HO := Lib.hid (show OpenOw _ w1 m.theirs (.slice fa m.theirs.fams.length fc) (.slice aa m.theirs.adds.length ac) (.slice ka m.theirs.kept.length kc) from ⟨hof, hoa, hok⟩)
    have HB := Lib.hid hb
    have hsz := hb.size
    simp at hsz
    clear hof hoa hok hb r1 c0
    unfold openV
    go_wp2
    refine bodyPost_ret (v := .tuple #[openV m.theirs (.slice fa m.theirs.fams.length fc) (.slice aa m.theirs.adds.length ac) (.slice ka m.theirs.kept.length kc), .bool true]) (by simp [results, Try.results13, go_sem, lc]) rfl ⟨fa, fc, aa, ac, ka, kc, rfl, ?_, ?_⟩
    · refine OpenOw.mono (B := w.heap.size + 1) ?_ (by omega)
      refine OpenOw.keeps (A' := fun k => k ≠ w.heap.size) (HO.out.mono (by simp)) ?_ (fun k h1 _ => by omega)
      repeat refine Keeps.setCell ?_ (by simp) _
      exact Keeps.refl _ _
    · repeat refine Below.setCell ?_ (by simp) _
      exact below_of_alloc HB.out (by simp)
  · have hd : decide (5 ≤ m.state) = false := by simp [h5]
    have HO : theirsOut m = openNone := if_neg h5
    rw [HO]
    rw [hd] at hc ⊢
    clear HO hd h5 h1 hst
    go_enter Try.func13, Try.ntmps13
    go_wp2_with fail
    refine hc.mono ?_
    rintro e w1 ⟨rfl, rfl⟩
    clear hc
    go_wp2
    refine bodyPost_ret (v := .tuple #[openV openNone nilS nilS nilS, .bool false]) (by simp [results, Try.results13, go_sem, openNone]) rfl ⟨none, 0, none, 0, none, 0, rfl, ⟨World.ownsRow_nil _ _ _ _, World.ownsRow_nil _ _ _ _, World.ownsRow_nil _ _ _ _⟩, ?_⟩
    exact (Below.refl _ _).alloc (Nat.le_refl _) _
end Go.Proofs.Ytnbopmpbgopafaa
