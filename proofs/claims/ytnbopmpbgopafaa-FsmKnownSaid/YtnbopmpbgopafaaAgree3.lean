/- open.Agree. -/
import Derived.Test.YtnbopmpbgopafaaAgree2
namespace Go.Proofs.Ytnbopmpbgopafaa
open Go.RowKit
variable {A : Nat → Prop}

structure SesD where
  hold : Int
  fams : List Int
  four : Bool
  refresh : Bool
  send : List Int
  take : List Int
  hasGR : Bool
  again : Bool
  time : Int
  kept : List RestD
  deriving DecidableEq

abbrev sesCells (s : SesD) (fv sv tv kv : Value) : Array Value :=
  #[.int .i64 s.hold, fv, .bool s.four, .bool s.refresh, sv, tv, .bool s.hasGR, .bool s.again, .int .i64 s.time, kv]
abbrev sesV (s : SesD) (fv sv tv kv : Value) : Value := .agg (sesCells s fv sv tv kv)
abbrev sesZero : Array Value := #[.int .i64 0, .slice none 0 0, .bool false, .bool false, .slice none 0 0, .slice none 0 0, .bool false, .bool false, .int .i64 0, .slice none 0 0]
def sesNone : SesD := ⟨0, [], false, false, [], [], false, false, 0, []⟩

def agreeF (m t : OpenD) : List Int := m.fams.filter (fun f => t.fams.contains f)
def keptP (l : List Int) (x : RestD) : Bool := l.contains x.fam
/-- What two that may be agree upon. -/
def agreeD (m t : OpenD) : SesD :=
  { hold := min m.hold t.hold, fams := agreeF m t, four := m.four && t.four, refresh := m.refresh && t.refresh,
    send := (agreeF m t).filter (bothP m.adds t.adds), take := (agreeF m t).filter (bothP t.adds m.adds), hasGR := t.hasGR, again := t.again, time := t.time,
    kept := t.kept.filter (keptP (agreeF m t)) }

theorem risingL_len : ∀ (l : List Int) (last : Int), risingL l last = true → last ≤ 5 → (l.length : Int) ≤ 5 - last := by
  intro l
  induction l with
  | nil => intro last _ h; simp; omega
  | cons f l ih =>
    intro last h h5
    simp only [risingL] at h
    split at h
    · simp at h
    · rename_i hn
      have := ih f h (by omega)
      simp only [List.length_cons]; omega

structure AgCtx (w wr : World) (m t : OpenD) (mf ma mk tf ta tk : Value) (bs : Nat) (s : SesD) (fv sv tv kv : Value) : Prop where
  below : Below w.heap.size w wr
  r0 : wr.heap[w.heap.size]? = some (.cells (openCells m mf ma mk) 32 (0, 0))
  r1 : wr.heap[w.heap.size + 1]? = some (.cells (openCells t tf ta tk) 32 (0, 0))
  r2 : wr.heap[w.heap.size + 2]? = some (.cells sesZero 54 (0, 0))
  rs : wr.heap[bs]? = some (.cells (sesCells s fv sv tv kv) 54 (0, 0))
  lt : w.heap.size + 2 < bs
theorem AgCtx.next {w wr w' : World} {m t : OpenD} {mf ma mk tf ta tk : Value} {bs : Nat} {s : SesD} {fv sv tv kv : Value} (h : AgCtx w wr m t mf ma mk tf ta tk bs s fv sv tv kv)
    (hb : Below wr.heap.size wr w') : AgCtx w w' m t mf ma mk tf ta tk bs s fv sv tv kv :=
  ⟨h.below.trans (hb.mono h.below.size), below_row hb h.r0, below_row hb h.r1, below_row hb h.r2, below_row hb h.rs, h.lt⟩
theorem AgCtx.grown {w wr w' : World} {m t : OpenD} {mf ma mk tf ta tk : Value} {bs : Nat} {s : SesD} {fv sv tv kv : Value} (h : AgCtx w wr m t mf ma mk tf ta tk bs s fv sv tv kv)
    (hb : Below (bs + 1) wr w') : AgCtx w w' m t mf ma mk tf ta tk bs s fv sv tv kv := by
  have := h.lt
  exact ⟨h.below.trans (hb.mono (by omega)), (hb.block _ (by omega)).trans h.r0, (hb.block _ (by omega)).trans h.r1, (hb.block _ (by omega)).trans h.r2, (hb.block _ (by omega)).trans h.rs, h.lt⟩
theorem AgCtx.set {w wr : World} {m t : OpenD} {mf ma mk tf ta tk : Value} {bs : Nat} {s : SesD} {fv sv tv kv : Value} (h : AgCtx w wr m t mf ma mk tf ta tk bs s fv sv tv kv)
    {j : Nat} {v fv' sv' tv' kv' : Value} (he : (sesCells s fv sv tv kv).setIfInBounds j v = sesCells s fv' sv' tv' kv') : AgCtx w (wr.setCell ⟨bs, j, none⟩ v) m t mf ma mk tf ta tk bs s fv' sv' tv' kv' := by
  have := h.lt
  refine ⟨h.below.setCell (by simp; omega) _, ?_, ?_, ?_, ?_, h.lt⟩
  · rw [Below.heap_setCell _ _ _ _ (by simp; omega)]; exact h.r0
  · rw [Below.heap_setCell _ _ _ _ (by simp; omega)]; exact h.r1
  · rw [Below.heap_setCell _ _ _ _ (by simp; omega)]; exact h.r2
  · rw [heap_setCell_same wr bs j _ _ v h.rs, he]

theorem rd_cellI {w wr : World} {a : Option Addr} {c : Nat} {l : List Int} (h : Rd A w 1 cI (.slice a l.length c) l) (hb : Below w.heap.size w wr) (k : Nat) (hk : k < l.length) :
    ∃ b off, a = some ⟨b, off, none⟩ ∧ wr.cell? ⟨b, off + k, none⟩ = some (.int .i64 l[k]) := by
  rcases h with ⟨_, _, rfl⟩ | ⟨b, off, c', hv, _, _, _, h5⟩
  · simp at hk
  · simp only [Value.slice.injEq] at hv
    exact ⟨b, off, hv.1, cellsI h5 hb k hk⟩
theorem rd_cellR {w wr : World} {a : Option Addr} {c : Nat} {l : List RestD} (h : Rd A w 2 cR (.slice a l.length c) l) (hb : Below w.heap.size w wr) (k : Nat) (hk : k < l.length) :
    ∃ b off, a = some ⟨b, off, none⟩ ∧ wr.cell? ⟨b, off + k * 2, none⟩ = some (.int .i64 l[k].fam) ∧ wr.cell? ⟨b, off + k * 2 + 1, none⟩ = some (.bool l[k].kept) := by
  rcases h with ⟨_, _, rfl⟩ | ⟨b, off, c', hv, _, _, _, h5⟩
  · simp at hk
  · simp only [Value.slice.injEq] at hv
    exact ⟨b, off, hv.1, cellsR h5 hb k hk⟩

def agBad (m t : OpenD) : Bool := !checkD m || !checkD t

set_option maxRecDepth 100000 in
theorem c_Agree_bad1 {w : World} {m t : OpenD} {mf ma mk tf ta tk : Value} (hm : OpenAt A w m mf ma mk) (h : checkD m = false) :
    Calls Try.prog 87 #[openV m mf ma mk, openV t tf ta tk] w fun e w' => e = .returned (.tuple #[.agg sesZero, .int .i64 2]) ∧ Below w.heap.size w w' := by
  have hn : chkN m = 2 := by simp [chkN, h]
  have HM := Lib.hid hm
  clear hm h
  obtain ⟨asn, hold, id, fams, four, refresh, adds, hasGR, again, time, kept⟩ := m
  obtain ⟨tasn, thold, tid, tfams, tfour, trefresh, tadds, thasGR, tagain, ttime, tkept⟩ := t
  have HN := Lib.hid hn
  clear hn
  unfold openV sesZero
  simp only
  go_enter Try.func87, Try.ntmps87
  go_wp2_with fail
  refine (c_Check (HM.out.below ((((Below.refl _ _).alloc (Nat.le_refl _) _).alloc (by simp) _).alloc (by simp; omega) _))).mono ?_
  rintro e w1 ⟨rfl, hb1⟩
  rw [HN.out]
  have hr := below_row hb1 (b := w.heap.size + 2) (o := .cells sesZero 54 (0, 0)) (heap_new1 _ _ _ (by simp))
  have kc := row_cell hr
  have kf := row_free hr
  have HB := Lib.hid (((((Below.refl _ _).alloc (Nat.le_refl _) _).alloc (by simp) _).alloc (by simp; omega) _).trans (hb1.mono (by simp; omega)))
  clear hr hb1
  go_wp2
  refine bodyPost_ret (v := .tuple #[.agg sesZero, .int .i64 2]) (by simp [results, Try.results87, go_sem, kc]) rfl ⟨rfl, ?_⟩
  repeat refine Below.setCell ?_ (by simp; omega) _
  exact HB.out

set_option maxRecDepth 100000 in
theorem c_Agree_bad2 {w : World} {m t : OpenD} {mf ma mk tf ta tk : Value} (hm : OpenAt A w m mf ma mk) (ht : OpenAt A w t tf ta tk) (h : checkD m = true) (h' : checkD t = false) :
    Calls Try.prog 87 #[openV m mf ma mk, openV t tf ta tk] w fun e w' => e = .returned (.tuple #[.agg sesZero, .int .i64 2]) ∧ Below w.heap.size w w' := by
  have hn : chkN m = 0 := by simp [chkN, h]
  have hn' : chkN t = 2 := by simp [chkN, h']
  have HM := Lib.hid hm
  have HT := Lib.hid ht
  clear hm ht h h'
  obtain ⟨asn, hold, id, fams, four, refresh, adds, hasGR, again, time, kept⟩ := m
  obtain ⟨tasn, thold, tid, tfams, tfour, trefresh, tadds, thasGR, tagain, ttime, tkept⟩ := t
  have HN := Lib.hid hn
  have HN' := Lib.hid hn'
  clear hn hn'
  unfold openV sesZero
  simp only
  go_enter Try.func87, Try.ntmps87
  go_wp2_with fail
  refine (c_Check (HM.out.below ((((Below.refl _ _).alloc (Nat.le_refl _) _).alloc (by simp) _).alloc (by simp; omega) _))).mono ?_
  rintro e w1 ⟨rfl, hb1⟩
  rw [HN.out]
  have hr := below_row hb1 (b := w.heap.size + 2) (o := .cells sesZero 54 (0, 0)) (heap_new1 _ _ _ (by simp))
  have hr1 := below_row hb1 (b := w.heap.size + 1) (o := .cells (openCells ⟨tasn, thold, tid, tfams, tfour, trefresh, tadds, thasGR, tagain, ttime, tkept⟩ tf ta tk) 32 (0, 0)) (heap_old1 (heap_new1 _ _ _ (by simp)))
  have HR := Lib.hid hr
  have kc1 := row_cell hr1
  have HB := Lib.hid (((((Below.refl _ _).alloc (Nat.le_refl _) _).alloc (by simp) _).alloc (by simp; omega) _).trans (hb1.mono (by simp; omega)))
  clear hr hb1 hr1
  go_wp2_with fail
  refine (c_Check (HT.out.below HB.out)).mono ?_
  rintro e w2 ⟨rfl, hb2⟩
  rw [HN'.out]
  have hr2 := below_row hb2 HR.out
  have kc := row_cell hr2
  have kf := row_free hr2
  have HB2 := Lib.hid (HB.out.trans (hb2.mono HB.out.size))
  clear hr2 hb2 kc1
  go_wp2
  refine bodyPost_ret (v := .tuple #[.agg sesZero, .int .i64 2]) (by simp [results, Try.results87, go_sem, kc]) rfl ⟨rfl, ?_⟩
  repeat refine Below.setCell ?_ (by simp; omega) _
  exact HB2.out

set_option maxRecDepth 100000 in
set_option maxHeartbeats 4000000 in
theorem c_Agree_ok {w : World} {m t : OpenD} {mf ma mk tf ta tk : Value} (hm : OpenAt A w m mf ma mk) (ht : OpenAt A w t tf ta tk) (h : checkD m = true) (h' : checkD t = true) :
    Calls Try.prog 87 #[openV m mf ma mk, openV t tf ta tk] w fun e w' => ∃ fa fc sa sc ra rc ka kc,
      e = .returned (.tuple #[sesV (agreeD m t) (.slice fa (agreeD m t).fams.length fc) (.slice sa (agreeD m t).send.length sc) (.slice ra (agreeD m t).take.length rc) (.slice ka (agreeD m t).kept.length kc), .int .i64 0]) ∧
      Ow w.heap.size w' 3 1 cI (.slice fa (agreeD m t).fams.length fc) (agreeD m t).fams ∧ Ow w.heap.size w' 3 1 cI (.slice sa (agreeD m t).send.length sc) (agreeD m t).send ∧
      Ow w.heap.size w' 3 1 cI (.slice ra (agreeD m t).take.length rc) (agreeD m t).take ∧ Ow w.heap.size w' 108 2 cR (.slice ka (agreeD m t).kept.length kc) (agreeD m t).kept ∧
      Below w.heap.size w w' := by
  have hn : chkN m = 0 := by simp [chkN, h]
  have hn' : chkN t = 0 := by simp [chkN, h']
  have HM := Lib.hid hm
  have HT := Lib.hid ht
  clear hm ht
  have HN := Lib.hid hn
  have HN' := Lib.hid hn'
  clear hn hn'
  obtain ⟨fa, fc, hfa, _, _, _⟩ := HM.out.fams.open
  subst hfa
  obtain ⟨ta1, tc, htf, _, _, _⟩ := HT.out.fams.open
  subst htf
  obtain ⟨ka1, kcap, htk, _, _, _⟩ := HT.out.kept.open
  subst htk
  have hl1 : m.fams.length ≤ 5 := by
    have h1 : risingL (m.fams.map id) 0 = true := by simp [checkD] at h; simp [h]
    have := risingL_len _ _ h1 (by omega); simp at this; omega
  have hl2 : t.kept.length ≤ 5 := by
    have h1 : risingL (t.kept.map RestD.fam) 0 = true := by simp [checkD] at h'; simp [h']
    have := risingL_len _ _ h1 (by omega); simp at this; omega
  have HL1 := Lib.hid hl1
  have HL2 := Lib.hid hl2
  clear h h' hl1 hl2
  obtain ⟨i0, hi, hz0, hz1, hz2⟩ := info_parts i_I
  obtain ⟨i2, hi2, hy0, hy1, hy2⟩ := info_parts i_R
  obtain ⟨D, hD⟩ : ∃ D, D = agreeD m t := ⟨_, rfl⟩
  have HD := Lib.hid hD
  rw [← hD]
  clear hD
  unfold openV
  go_enter Try.func87, Try.ntmps87
  go_wp2_with fail
  refine (c_Check (HM.out.below ((((Below.refl _ _).alloc (Nat.le_refl _) _).alloc (by simp) _).alloc (by simp; omega) _))).mono ?_
  rintro e w1 ⟨rfl, hb1⟩
  rw [HN.out]
  have hr := below_row hb1 (b := w.heap.size + 2) (o := .cells sesZero 54 (0, 0)) (heap_new1 _ _ _ (by simp))
  have hr1 := below_row hb1 (b := w.heap.size + 1) (o := .cells (openCells t _ ta _) 32 (0, 0)) (heap_old1 (heap_new1 _ _ _ (by simp)))
  have hr0 := below_row hb1 (b := w.heap.size) (o := .cells (openCells m _ ma mk) 32 (0, 0)) (heap_old1 (heap_old1 (heap_new1 _ _ _ (by simp))))
  have HR := Lib.hid hr
  have HR1 := Lib.hid hr1
  have HR0 := Lib.hid hr0
  have kc1 := row_cell hr1
  have HB := Lib.hid (((((Below.refl _ _).alloc (Nat.le_refl _) _).alloc (by simp) _).alloc (by simp; omega) _).trans (hb1.mono (by simp; omega)))
  clear hr hb1 hr1 hr0
  go_wp2_with fail
  refine (c_Check (HT.out.below HB.out)).mono ?_
  rintro e w2 ⟨rfl, hb2⟩
  rw [HN'.out]
  have HS2 := Lib.hid (below_row hb2 HR.out)
  have HS1 := Lib.hid (below_row hb2 HR1.out)
  have HS0 := Lib.hid (below_row hb2 HR0.out)
  have kc0 := row_cell (below_row hb2 HR0.out)
  have kc1 := row_cell (below_row hb2 HR1.out)
  have HB2 := Lib.hid (HB.out.trans (hb2.mono HB.out.size))
  clear hb2 HR HR1 HR0 HB
  have hlt : w.heap.size + 2 < w2.heap.size := (Array.getElem?_eq_some_iff.1 HS2.out).1
  have hlt0 : w.heap.size < w2.heap.size := by omega
  have hlt1 : w.heap.size + 1 < w2.heap.size := by omega
  obtain ⟨P, hP⟩ : ∃ P : Int → Bool, P = fun f => t.fams.contains f := ⟨_, rfl⟩
  have HP := Lib.hid hP
  clear hP
  cases hf4 : m.four <;> cases hre : m.refresh
  all_goals
    have HF4 := Lib.hid (And.intro hf4 hre)
    go_wp2_with fail
    go_loopw [8, 48] (fun _ i wr => ∃ (k : Nat) (oa : Option Addr) (oc : Nat), k ≤ m.fams.length ∧ i = .int .i64 k ∧ AgCtx w wr m t (.slice fa m.fams.length fc) ma mk (.slice ta1 t.fams.length tc) ta (.slice ka1 t.kept.length kcap) w2.heap.size D (.slice oa ((m.fams.take k).filter P).length oc) (.slice none 0 0) (.slice none 0 0) (.slice none 0 0) ∧
        Ow (w2.heap.size + 1) wr 3 1 cI (.slice oa ((m.fams.take k).filter P).length oc) ((m.fams.take k).filter P)) (fun _ i _ => m.fams.length - (intOf i).toNat)
    case atStart =>
      refine ⟨0, none, 0, Nat.zero_le _, rfl, ⟨HB2.out.alloc (by omega) _, heap_old1 HS0.out, heap_old1 HS1.out, heap_old1 HS2.out, ?_, hlt⟩, World.ownsRow_nil _ _ _ _⟩
      rw [heap_new1 _ _ _ rfl, HD.out]
      simp [agreeD, HF4.out.1, HF4.out.2]
    case round =>
      obtain ⟨k, oa, oc, hk, rfl, C, hown⟩ := hrel
      have HC := Lib.hid C
      have HO := Lib.hid hown
      have c0 := row_cell C.r0
      have c1 := row_cell C.r1
      have c2 := row_cell C.r2
      have cs := row_cell C.rs
      have fs := row_free C.rs
      have z0 : w2.heap.size < wr.heap.size := (Array.getElem?_eq_some_iff.1 C.rs).1
      clear C hown kc0 kc1
      have hb5 := HL1.out
      by_cases hltk : k < m.fams.length
      · have hS := take_filter_succ P m.fams k hltk
        obtain ⟨b, off, hfa, hc0⟩ := rd_cellI HM.out.fams HC.out.below k hltk
        subst hfa
        obtain ⟨xk, hxk⟩ : ∃ xk, xk = m.fams[k] := ⟨_, rfl⟩
        rw [← hxk] at hc0 hS
        have HS := Lib.hid hS
        have HLT := Lib.hid hltk
        clear hxk hS
        obtain ⟨L, hL⟩ : ∃ L, L = List.filter P (List.take k m.fams) := ⟨_, rfl⟩
        rw [← hL] at cs
        have HLL := Lib.hid hL; clear hL
        go_wp2_with fail
        refine (c_Contains (HT.out.fams.below HC.out.below) xk).mono ?_
        rintro e w3 ⟨rfl, rfl⟩
        obtain ⟨p1, hp1⟩ : ∃ p, p = t.fams.contains xk := ⟨_, rfl⟩
        rw [← hp1]
        have HP1 := Lib.hid hp1; clear hp1
        cases p1
        · go_wp2
          go_roundw
          case rel =>
            have hb : P xk = false := by rw [HP.out]; exact HP1.out.symm
            refine ⟨k + 1, oa, oc, by have := HLT.out; omega, by go_num, ?_, ?_⟩
            · rw [HS.out, if_neg (by rw [hb]; simp), List.append_nil]; exact HC.out
            · rw [HS.out, if_neg (by rw [hb]; simp), List.append_nil]; exact HO.out
          case measure => have := HLT.out; simp [intOf]; omega
        · have hlen : L.length ≤ 5 := by
            have h1 := List.length_filter_le P (List.take k m.fams)
            have h2 := List.length_take_le k m.fams
            have h3 := HL1.out
            have h4 := HLT.out
            rw [HLL.out]; omega
          have HH := Lib.hid hlen
          clear hlen
          go_wp2_with (at_builtin; go_must (refine wpList_append_own _ rfl _ _ 26 rfl (w2.heap.size + 1) 3 i0 (.int .i64 0) 1 8 Try.underlying26 hi hz0 hz1 hz2 rfl (by decide) _ L.length (L.flatMap cI) rfl ?own ⟨wr.heap.size, 0, none⟩ 1 1 (cI xk) rfl rfl ?hnews ?h1 ?h63 ?hbytes ?hbase ?_))
          case own => have := HO.out; rw [← HLL.out] at this; exact World.ownsRow.alloc this _
          case hnews => exact cell_one_new _ _ _
          case h1 => exact cod_I.one xk
          case h63 => have := HH.out; simp only [maxLen]; omega
          case hbytes => have := HH.out; omega
          case hbase => simp; omega
          intro v' w3 hown3 hgrow3 _
          have HO3 := Lib.hid (ow_step hown3)
          have HC3 := Lib.hid (HC.out.grown (below_grown hgrow3 (fun k hk => (Ow.lt HO.out k (by rw [← HLL.out]; exact hk)).1) (by omega)))
          obtain ⟨oa', oc', hv'⟩ := HO3.out.shape
          subst hv'
          clear hown3 hgrow3 c0 c1 c2 cs fs
          have cs := row_cell HC3.out.rs
          have fs := row_free HC3.out.rs
          go_wp2
          go_roundw
          case rel =>
            have hb : P xk = true := by rw [HP.out]; exact HP1.out.symm
            refine ⟨k + 1, oa', oc', by have := HLT.out; omega, ?_⟩
            rw [HS.out, if_pos hb, ← HLL.out]
            refine ⟨by go_num, HC3.out.set (by simp), HO3.out.keeps (A' := fun b => b ≠ w2.heap.size) ((Keeps.refl _ _).setCell (by simp) _) (fun b hb => by have := Ow.lt HO3.out b hb; omega)⟩
          case measure => have := HLT.out; simp [intOf]; omega
      · have e1 : (m.fams.take k).filter P = D.fams := by rw [List.take_of_length_le (by omega), HD.out, HP.out]; rfl
        have C1 : AgCtx w wr m t (.slice fa m.fams.length fc) ma mk (.slice ta1 t.fams.length tc) ta (.slice ka1 t.kept.length kcap) w2.heap.size D (.slice oa D.fams.length oc) (.slice none 0 0) (.slice none 0 0) (.slice none 0 0) := by have := HC.out; rw [e1] at this; exact this
        have O1 : Ow (w2.heap.size + 1) wr 3 1 cI (.slice oa D.fams.length oc) D.fams := by have := HO.out; rw [e1] at this; exact this
        have HE := Lib.hid e1
        have HC1 := Lib.hid C1
        have HO1 := Lib.hid O1
        have hlf : D.fams.length ≤ 5 := by rw [← e1]; have h1 := List.length_filter_le P (List.take k m.fams); have h2 := List.length_take_le k m.fams; omega
        have HLF := Lib.hid hlf
        clear e1 C1 O1 hlf
        go_wp2_with fail
        refine wp_region_K2 [] (fun W => W.cell? ⟨w.heap.size, 6, none⟩ = some ma ∧ W.cell? ⟨w.heap.size + 1, 6, none⟩ = some ta) (fun W => AgCtx w W m t (.slice fa m.fams.length fc) ma mk (.slice ta1 t.fams.length tc) ta (.slice ka1 t.kept.length kcap) w2.heap.size D (.slice oa D.fams.length oc) (.slice none 0 0) (.slice none 0 0) (.slice none 0 0) ∧ Ow (w2.heap.size + 1) W 3 1 cI (.slice oa D.fams.length oc) D.fams) rfl ⟨by simp [c0], by simp [c1]⟩ ⟨HC1.out.next (Below.refl _ _).drew, HO1.out.below (Below.refl _ _).drew⟩ (fun hS0 hR => ?_)
        have HS0 := Lib.hid hS0
        obtain ⟨C2, O2⟩ := hR
        have HC2 := Lib.hid C2
        have HO2 := Lib.hid O2
        clear c0 c1 c2 cs fs hS0 C2 O2
        refine wpAnyK_take 0 (v := ?_) rfl (by kernel_rfl) (fun _ _ _ h => h) (.inl ⟨by rfl, ?_⟩) HS0.out ?_
        rotate_left
        · intro w hS; clear hS; go_simp; with_reducible rfl
        refine wpAnyK_take 1 (v := ?_) rfl (by kernel_rfl) (fun _ _ _ h => h) (.inl ⟨by rfl, ?_⟩) HS0.out ?_
        rotate_left
        · intro w hS; clear hS; go_simp; with_reducible rfl
        refine wpAnyK_take 2 (v := ma) rfl (by kernel_rfl) (fun _ _ _ h => h) (.inl ⟨by rfl, fun w hS => ?_⟩) HS0.out ?_
        · obtain ⟨h1, h2⟩ := hS; go_simp
        refine wpAnyK_take 3 (v := ?_) rfl (by kernel_rfl) (fun _ _ _ h => h) (.inl ⟨by rfl, ?_⟩) HS0.out ?_
        rotate_left
        · intro w hS; clear hS; go_simp; with_reducible rfl
        refine wpAnyK_take 4 (v := ta) rfl (by kernel_rfl) (fun _ _ _ h => h) (.inl ⟨by rfl, fun w hS => ?_⟩) HS0.out ?_
        · obtain ⟨h1, h2⟩ := hS; go_simp
        refine wpAnyK_take 6 (v := ?_) rfl (by kernel_rfl) (fun _ _ _ h => h) (.inl ⟨by rfl, ?_⟩) HS0.out ?_
        rotate_left
        · intro w hS; clear hS; go_simp; with_reducible rfl
        refine wpAnyK_take 7 (v := ?_) rfl (by kernel_rfl) (fun _ _ _ h => h) (.inl ⟨by rfl, ?_⟩) HS0.out ?_
        rotate_left
        · intro w hS; clear hS; go_simp; with_reducible rfl
        refine wpAnyK_take 8 (v := ta) rfl (by kernel_rfl) (fun _ _ _ h => h) (.inl ⟨by rfl, fun w hS => ?_⟩) HS0.out ?_
        · obtain ⟨h1, h2⟩ := hS; go_simp
        refine wpAnyK_take 9 (v := ?_) rfl (by kernel_rfl) (fun _ _ _ h => h) (.inl ⟨by rfl, ?_⟩) HS0.out ?_
        rotate_left
        · intro w hS; clear hS; go_simp; with_reducible rfl
        refine wpAnyK_take 10 (v := ma) rfl (by kernel_rfl) (fun _ _ _ h => h) (.inl ⟨by rfl, fun w hS => ?_⟩) HS0.out ?_
        · obtain ⟨h1, h2⟩ := hS; go_simp
        refine wpAnyK_one 5 (by kernel_rfl) rfl (by rfl) (fun K' hK => ?_)
        go_wp2_with fail
        refine (c_both (A := fun _ => True) (by simpa using row_cell HC2.out.rs 1) ((HO2.out.rd cod_I).mono (fun _ _ => trivial)) ((HM.out.adds.below HC2.out.below).mono (fun _ _ => trivial)) ((HT.out.adds.below HC2.out.below).mono (fun _ _ => trivial)) (by have := HLF.out; omega)).mono ?_
        rintro e w3 ⟨sa, sc, rfl, ho3, hb3⟩
        have e3 : D.fams.filter (bothP m.adds t.adds) = D.send := by rw [HD.out]; rfl
        rw [e3] at ho3 ⊢
        have HO3 := Lib.hid ho3
        have HB3 := Lib.hid hb3
        clear e3 ho3 hb3
        go_wp2_with fail
        have HC3 := Lib.hid (HC2.out.next HB3.out)
        refine stillS ⟨by simpa using row_cell HC3.out.r0 6, by simpa using row_cell HC3.out.r1 6⟩ (fun hS1 => ?_)
        have HS1' := Lib.hid hS1
        clear hS1
        refine wpAnyK_take 12 (v := ?_) rfl (by kernel_rfl) (fun _ _ _ h => h) (.inl ⟨by rfl, ?_⟩) HS1'.out ?_
        rotate_left
        · intro w hS; clear hS; go_simp; with_reducible rfl
        refine wpAnyK_one 11 (by kernel_rfl) rfl (by rfl) (fun K' hK => ?_)
        go_wp2_with fail
        refine (c_both (A := fun _ => True) (by simpa using row_cell HC3.out.rs 1) (((HO2.out.below HB3.out).rd cod_I).mono (fun _ _ => trivial)) ((HT.out.adds.below HC3.out.below).mono (fun _ _ => trivial)) ((HM.out.adds.below HC3.out.below).mono (fun _ _ => trivial)) (by have := HLF.out; omega)).mono ?_
        rintro e w4 ⟨ra, rc, rfl, ho4, hb4⟩
        have e4 : D.fams.filter (bothP t.adds m.adds) = D.take := by rw [HD.out]; rfl
        rw [e4] at ho4 ⊢
        have HO4 := Lib.hid ho4
        have HB4 := Lib.hid hb4
        have HC4 := Lib.hid (HC3.out.next HB4.out)
        clear e4 ho4 hb4
        go_wp2_with fail
        refine stillS ⟨by simpa using row_cell HC4.out.r0 6, by simpa using row_cell HC4.out.r1 6⟩ (fun hS2 => ?_)
        have HS2' := Lib.hid hS2
        clear hS2
        have c0 := row_cell HC4.out.r0
        have c1 := row_cell HC4.out.r1
        have c2 := row_cell HC4.out.r2
        have cs := row_cell HC4.out.rs
        have fs := row_free HC4.out.rs
        refine wpAnyK_one 13 (by kernel_rfl) rfl (by rfl) (fun K' hK => ?_)
        go_wp2_with fail
        have HC5 := Lib.hid (HC4.out.set (j := 4) (v := .slice sa D.send.length sc) (fv' := .slice oa D.fams.length oc) (sv' := .slice sa D.send.length sc) (tv' := .slice none 0 0) (kv' := .slice none 0 0) (by simp))
        refine stillS ⟨by simpa using row_cell HC5.out.r0 6, by simpa using row_cell HC5.out.r1 6⟩ (fun hS3 => ?_)
        have HS3' := Lib.hid hS3
        clear hS3
        refine wpAnyK_take 14 (v := ?_) rfl (by kernel_rfl) (fun _ _ _ h => h) (.inl ⟨by rfl, ?_⟩) HS3'.out ?_
        rotate_left
        · intro w hS; clear hS; go_simp; with_reducible rfl
        refine wpAnyK_one 15 (by kernel_rfl) rfl (by rfl) (fun K' hK => ?_)
        go_wp2_with fail
        have HC6 := Lib.hid (HC5.out.set (j := 5) (v := .slice ra D.take.length rc) (fv' := .slice oa D.fams.length oc) (sv' := .slice sa D.send.length sc) (tv' := .slice ra D.take.length rc) (kv' := .slice none 0 0) (by simp))
        refine stillS ⟨by simpa using row_cell HC6.out.r0 6, by simpa using row_cell HC6.out.r1 6⟩ (fun hS4 => ?_)
        clear hS4
        refine wpAnyK_done (by kernel_rfl) ?_
        go_wp2_with fail
        have hw4 : w2.heap.size < w4.heap.size := (Array.getElem?_eq_some_iff.1 HC4.out.rs).1
        have HK6 := Lib.hid (((Keeps.refl (fun b => b < w4.heap.size ∧ b ≠ w2.heap.size) w4).setCell (p := ⟨w2.heap.size, 4, none⟩) (by simp) (.slice sa D.send.length sc)).setCell (p := ⟨w2.heap.size, 5, none⟩) (by simp) (.slice ra D.take.length rc))
        clear c0 c1 c2 cs fs
        go_loopw [81] (fun i wl => ∃ (k : Nat) (qa : Option Addr) (qc : Nat), k ≤ t.kept.length ∧ i = .int .i64 k ∧ AgCtx w wl m t (.slice fa m.fams.length fc) ma mk (.slice ta1 t.fams.length tc) ta (.slice ka1 t.kept.length kcap) w2.heap.size D (.slice oa D.fams.length oc) (.slice sa D.send.length sc) (.slice ra D.take.length rc) (.slice qa ((t.kept.take k).filter (keptP D.fams)).length qc) ∧
            Ow w4.heap.size wl 108 2 cR (.slice qa ((t.kept.take k).filter (keptP D.fams)).length qc) ((t.kept.take k).filter (keptP D.fams)) ∧ Keeps (fun b => b < w4.heap.size ∧ b ≠ w2.heap.size) w4 wl) (fun i _ => t.kept.length - (intOf i).toNat)
        case atStart => exact ⟨0, none, 0, Nat.zero_le _, rfl, HC6.out, World.ownsRow_nil _ _ _ _, HK6.out⟩
        case round =>
          obtain ⟨k2, qa, qc, hk2, rfl, E, eown, ekeep⟩ := hrel
          have HX := Lib.hid E
          have HQ := Lib.hid eown
          have HZ := Lib.hid ekeep
          have c0 := row_cell E.r0
          have c1 := row_cell E.r1
          have c2 := row_cell E.r2
          have cs := row_cell E.rs
          have f2 := row_free E.r2
          have fs := row_free E.rs
          have hsz := ekeep.size
          have hz0 : w2.heap.size < wr.heap.size := by omega
          clear E eown ekeep
          have hb6 := HL2.out
          by_cases hltk : k2 < t.kept.length
          · have hS := take_filter_succ (keptP D.fams) t.kept k2 hltk
            obtain ⟨b, off, hka, hd0, hd1⟩ := rd_cellR HT.out.kept HX.out.below k2 hltk
            subst hka
            obtain ⟨xk, hxk⟩ : ∃ xk, xk = t.kept[k2] := ⟨_, rfl⟩
            rw [← hxk] at hd0 hd1 hS
            have HS := Lib.hid hS
            have HLT := Lib.hid hltk
            clear hxk hS
            obtain ⟨L, hL⟩ : ∃ L, L = List.filter (keptP D.fams) (List.take k2 t.kept) := ⟨_, rfl⟩
            rw [← hL] at cs
            have HLL := Lib.hid hL; clear hL
            have HOf := Lib.hid (((HO2.out.below HB3.out).below HB4.out).keeps HZ.out (fun b hb => by have h1 := Ow.lt ((HO2.out.below HB3.out).below HB4.out) b hb; omega))
            go_wp2_with fail
            refine (c_Contains ((HOf.out.rd cod_I).below ((Below.refl _ _).alloc (Nat.le_refl _) _)) xk.fam).mono ?_
            rintro e w5 ⟨rfl, rfl⟩
            obtain ⟨p1, hp1⟩ : ∃ p, p = D.fams.contains xk.fam := ⟨_, rfl⟩
            rw [← hp1]
            have HP1 := Lib.hid hp1; clear hp1
            have HXn := Lib.hid (HX.out.next ((Below.refl _ _).alloc (Nat.le_refl _) (.cells #[.int .i64 xk.fam, .bool xk.kept] 108)))
            have HQn := Lib.hid (HQ.out.below ((Below.refl _ _).alloc (Nat.le_refl _) (.cells #[.int .i64 xk.fam, .bool xk.kept] 108)))
            have HZn := Lib.hid (HZ.out.alloc (.cells #[.int .i64 xk.fam, .bool xk.kept] 108))
            cases p1
            · go_wp2
              go_roundw
              case rel =>
                have hb : keptP D.fams xk = false := HP1.out.symm
                refine ⟨k2 + 1, qa, qc, by have := HLT.out; omega, by go_num, ?_, ?_, HZn.out⟩
                · rw [HS.out, if_neg (by rw [hb]; simp), List.append_nil]; exact HXn.out
                · rw [HS.out, if_neg (by rw [hb]; simp), List.append_nil]; exact HQn.out
              case measure => have := HLT.out; simp [intOf]; omega
            · have hlen : L.length ≤ 5 := by
                have h1 := List.length_filter_le (keptP D.fams) (List.take k2 t.kept)
                have h2 := List.length_take_le k2 t.kept
                have h4 := HLT.out
                rw [HLL.out]; omega
              have HH := Lib.hid hlen
              clear hlen
              go_wp2_with (at_builtin; go_must (refine wpList_append_own _ rfl _ _ 30 rfl w4.heap.size 108 i2 (.agg #[.int .i64 0, .bool false]) 2 16 Try.underlying30 hi2 hy0 hy1 hy2 rfl (by decide) _ L.length (L.flatMap cR) rfl ?own ⟨wr.heap.size + 1, 0, none⟩ 1 1 (cR xk) rfl rfl ?hnews ?h1 ?h63 ?hbytes ?hbase ?_))
              case own => have := HQn.out; rw [← HLL.out] at this; exact World.ownsRow.alloc this _
              case hnews => simpa using news_new (w := wr.alloc (.cells #[.int .i64 xk.fam, .bool xk.kept] 108)) (cs := #[.int .i64 xk.fam, .bool xk.kept]) (e := 108) (l := cR xk) rfl
              case h1 => exact cod_R.one xk
              case h63 => have := HH.out; simp only [maxLen]; omega
              case hbytes => have := HH.out; omega
              case hbase => have := HZ.out.size; simp; omega
              intro v' w6 hown3 hgrow3 _
              have HO6 := Lib.hid (ow_step hown3)
              have hbg := below_grown hgrow3 (fun k hk => (Ow.lt HQn.out k (by rw [← HLL.out]; exact hk)).1) (by have := HZn.out.size; omega)
              have HC7 := Lib.hid (HXn.out.grown (hbg.mono (by omega)))
              have HZ7 := Lib.hid (HZn.out.trans (Keeps.of_below' hbg (fun k hk => hk.1)))
              obtain ⟨qa', qc', hv'⟩ := HO6.out.shape
              subst hv'
              clear hown3 hgrow3 c0 c1 c2 cs fs f2 hbg
              have cs := row_cell HC7.out.rs
              have fs := row_free HC7.out.rs
              go_wp2
              go_roundw
              case rel =>
                have hb : keptP D.fams xk = true := HP1.out.symm
                refine ⟨k2 + 1, qa', qc', by have := HLT.out; omega, ?_⟩
                rw [HS.out, if_pos hb, ← HLL.out]
                refine ⟨by go_num, HC7.out.set (by simp), HO6.out.keeps (A' := fun b => b ≠ w2.heap.size) ((Keeps.refl _ _).setCell (by simp) _) (fun b hb => by have := Ow.lt HO6.out b hb; omega), HZ7.out.setCell (by simp) _⟩
              case measure => have := HLT.out; simp [intOf]; omega
          · have e2 : (t.kept.take k2).filter (keptP D.fams) = D.kept := by rw [List.take_of_length_le (by omega), HD.out]; rfl
            rw [e2] at cs
            have C8 := HX.out
            have Q8 := HQ.out
            rw [e2] at C8 Q8
            have HC8 := Lib.hid C8
            have HQ8 := Lib.hid Q8
            have HOf := Lib.hid (((HO2.out.below HB3.out).below HB4.out).keeps HZ.out (fun b hb => by have h1 := Ow.lt ((HO2.out.below HB3.out).below HB4.out) b hb; have h2 := Ow.lt HO2.out b hb; omega))
            have HOs := Lib.hid ((HO3.out.below HB4.out).keeps HZ.out (fun b hb => by have h1 := Ow.lt (HO3.out.below HB4.out) b hb; have h2 := (Array.getElem?_eq_some_iff.1 HC2.out.rs).1; omega))
            have HOr := Lib.hid (HO4.out.keeps HZ.out (fun b hb => by have h1 := Ow.lt HO4.out b hb; have h2 := (Array.getElem?_eq_some_iff.1 HC3.out.rs).1; omega))
            have HSZ := Lib.hid (And.intro HC2.out.below.size (And.intro HC3.out.below.size HC4.out.below.size))
            clear e2 C8 Q8
            go_wp2
            refine bodyPost_ret (v := .tuple #[sesV D (.slice oa D.fams.length oc) (.slice sa D.send.length sc) (.slice ra D.take.length rc) (.slice qa D.kept.length qc), .int .i64 0]) ?_ rfl ⟨oa, oc, sa, sc, ra, rc, qa, qc, rfl, ?_, ?_, ?_, ?_, ?_⟩
            · simp [results, Try.results87, go_sem, c2]
            · refine Ow.keeps (A' := fun b => b ≠ w.heap.size + 2) (HOf.out.mono (by omega)) ?_ (fun b hb => by have h1 := Ow.lt HOf.out b hb; omega)
              repeat refine Keeps.setCell ?_ (by simp) _
              exact Keeps.refl _ _
            · refine Ow.keeps (A' := fun b => b ≠ w.heap.size + 2) (HOs.out.mono (by have := HSZ.out; simp at this ⊢; omega)) ?_ (fun b hb => by have h1 := Ow.lt HOs.out b hb; have h2 := (Array.getElem?_eq_some_iff.1 HC2.out.r2).1; omega)
              repeat refine Keeps.setCell ?_ (by simp) _
              exact Keeps.refl _ _
            · refine Ow.keeps (A' := fun b => b ≠ w.heap.size + 2) (HOr.out.mono (by have := HSZ.out; omega)) ?_ (fun b hb => by have h1 := Ow.lt HOr.out b hb; have h2 := (Array.getElem?_eq_some_iff.1 HC3.out.r2).1; omega)
              repeat refine Keeps.setCell ?_ (by simp) _
              exact Keeps.refl _ _
            · refine Ow.keeps (A' := fun b => b ≠ w.heap.size + 2) (HQ8.out.mono (by have := HSZ.out; omega)) ?_ (fun b hb => by have h1 := Ow.lt HQ8.out b hb; omega)
              repeat refine Keeps.setCell ?_ (by simp) _
              exact Keeps.refl _ _
            · repeat refine Below.setCell ?_ (by simp; omega) _
              exact HC8.out.below

/-- What open.Agree answers: the session, and the number of the error. -/
def agD (m t : OpenD) : SesD := if (checkD m && checkD t) = true then agreeD m t else sesNone
def agE (m t : OpenD) : Int := if (checkD m && checkD t) = true then 0 else 2

theorem c_Agree {w : World} {m t : OpenD} {mf ma mk tf ta tk : Value} (hm : OpenAt A w m mf ma mk) (ht : OpenAt A w t tf ta tk) :
    Calls Try.prog 87 #[openV m mf ma mk, openV t tf ta tk] w fun e w' => ∃ fa fc sa sc ra rc ka kc,
      e = .returned (.tuple #[sesV (agD m t) (.slice fa (agD m t).fams.length fc) (.slice sa (agD m t).send.length sc) (.slice ra (agD m t).take.length rc) (.slice ka (agD m t).kept.length kc), .int .i64 (agE m t)]) ∧
      Ow w.heap.size w' 3 1 cI (.slice fa (agD m t).fams.length fc) (agD m t).fams ∧ Ow w.heap.size w' 3 1 cI (.slice sa (agD m t).send.length sc) (agD m t).send ∧
      Ow w.heap.size w' 3 1 cI (.slice ra (agD m t).take.length rc) (agD m t).take ∧ Ow w.heap.size w' 108 2 cR (.slice ka (agD m t).kept.length kc) (agD m t).kept ∧
      Below w.heap.size w w' := by
  cases h : checkD m
  · have e1 : agD m t = sesNone := by simp [agD, h]
    have e2 : agE m t = 2 := by simp [agE, h]
    rw [e1, e2]
    refine (c_Agree_bad1 hm h).mono ?_
    rintro e w' ⟨rfl, hb⟩
    exact ⟨none, 0, none, 0, none, 0, none, 0, rfl, World.ownsRow_nil _ _ _ _, World.ownsRow_nil _ _ _ _, World.ownsRow_nil _ _ _ _, World.ownsRow_nil _ _ _ _, hb⟩
  cases h' : checkD t
  · have e1 : agD m t = sesNone := by simp [agD, h']
    have e2 : agE m t = 2 := by simp [agE, h']
    rw [e1, e2]
    refine (c_Agree_bad2 hm ht h h').mono ?_
    rintro e w' ⟨rfl, hb⟩
    exact ⟨none, 0, none, 0, none, 0, none, 0, rfl, World.ownsRow_nil _ _ _ _, World.ownsRow_nil _ _ _ _, World.ownsRow_nil _ _ _ _, World.ownsRow_nil _ _ _ _, hb⟩
  · have e1 : agD m t = agreeD m t := by simp [agD, h, h']
    have e2 : agE m t = 0 := by simp [agE, h, h']
    rw [e1, e2]
    exact c_Agree_ok hm ht h h'
end Go.Proofs.Ytnbopmpbgopafaa
