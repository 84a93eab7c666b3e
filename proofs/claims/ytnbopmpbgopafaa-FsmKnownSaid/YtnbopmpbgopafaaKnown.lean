/- heraldlaw20.FsmKnown: the walk. -/
import Derived.Test.YtnbopmpbgopafaaKnownE
import Derived.Test.YtnbopmpbgopafaaKnownF
import Derived.Test.YtnbopmpbgopafaaKnownSeg3
import Derived.Test.YtnbopmpbgopafaaKnownSeg12
import Derived.Test.YtnbopmpbgopafaaKnownD
namespace Go.Proofs.Ytnbopmpbgopafaa
open Go.RowKit
variable {A B : Nat → Prop}


set_option maxRecDepth 100000 in
set_option maxHeartbeats 20000000 in
theorem w_Known (w : World) : Calls Try.prog 6 #[] w fun e w' => e = .returned (.bool true) ∧ Below w.heap.size w w' := by
  go_enter Try.func6, Try.ntmps6
  go_wp2_with fail
  refine (c_peer _).mono ?_
  rintro e w1 ⟨rfl, hb⟩
  have B1 := Lib.hid hb
  clear hb
  go_wp2_with fail
  refine (c_open _ 1 7 90).mono ?_
  rintro e w2 ⟨fvw2, rfl, ho, hb⟩
  have B2 := Lib.hid (below_trans B1.out hb (Nat.le_refl _))
  have OP := Lib.hid ho
  clear hb ho
  go_wp2_with fail
  refine (c_New peer0_at OP.out (by decide) (by decide) (by decide)).mono ?_
  rintro e w3 hn
  obtain ⟨bm, rfl, hm, hb⟩ := Mach.of_new hn (by decide)
  have H3 := Lib.hid (show On w w.heap.size w3 (fun k => k = bm) w3 bm kM0 from ⟨hm.lower B2.out.size, below_trans B2.out hb (Nat.le_refl _), Keeps.refl _ _, fun k hk => hk ▸ hm.lt.2, Nat.le_refl _⟩)
  clear hn hm hb OP B2 B1
  go_upto_region 3 with fail
  have hbm := H3.out.mach.lt.2
  obtain ⟨br, hbr⟩ : ∃ b, b = w3.heap.size := ⟨_, rfl⟩
  have hne : bm < br := by omega
  have T3_0 := Lib.hid (show SRet br (actC 1) (w3.alloc (.cells (actCells (actC 1)) 50)) from hbr ▸ SRet.new)
  have H3a := Lib.hid (H3.out.next ((Below.refl _ _).alloc (Nat.le_refl _) (.cells (actCells (actC 1)) 50)))
  obtain ⟨w4, hw⟩ : ∃ x, x = w3.alloc (.cells (actCells (actC 1)) 50) := ⟨_, rfl⟩
  rw [← hw] at T3_0 H3a
  simp only [actC] at hw
  rw [← hw, ← hbr]
  clear hw hbr hbm
  go_upto_region 3 with fail
  refine seg3 H3a T3_0 hne (Lib.hid (fun _ _ d _ _ h => by cases d <;> exact h)) (fun u35 u36 u37 u38 u39 u40 u41 u42 u43 u44 u45 u46 u47 u48 u49 u50 u51 u52 u53 u54 u55 u56 u57 u58 u59 u60 u61 u62 u63 u64 u65 u66 u67 u68 u69 wr3 hon ht => ?_)
  have HS3 := Lib.hid hon
  have TS3 := Lib.hid ht
  clear hon ht
  go_wp2_with fail
  have hlt := HS3.out.mach.lt
  refine (c_onCopy HS3.out (fun n k => k = bm ∨ k = n) (fun n k => by omega)).mono ?_
  rintro e w21 ⟨bc, rfl, hbn, hbz, hb, hon, hm⟩
  have H21 := Lib.hid hon
  have C21 := Lib.hid hm
  have hlt_bc : bm < bc := by omega
  have T21_0 := Lib.hid (TS3.out.below hb)
  clear hon hm hb hbz hlt hbn
  go_wp2_with fail
  have hlt := H21.out.mach.lt
  refine (c_onCopy H21.out (fun n k => k = bm ∨ k = bc ∨ k = n) (fun n k => by omega)).mono ?_
  rintro e w22 ⟨bd, rfl, hbn, hbz, hb, hon, hm⟩
  have H22 := Lib.hid hon
  have C22 := Lib.hid hm
  have C22_0 := Lib.hid (Mach.grow (S' := fun k => k = bm ∨ k = bc ∨ k = bd) C21.out hb (fun k hk => by (try simp only at hk); omega))
  have hlt_bd : bm < bd := by omega
  have hlt_bc_bd : bc < bd := by have := C21.out.lt; omega
  have T22_0 := Lib.hid (T21_0.out.below hb)
  clear hon hm hb hbz hlt hbn
  go_wp2_with fail
  have hlt := H22.out.mach.lt
  refine (c_onCopy H22.out (fun n k => k = bm ∨ k = bc ∨ k = bd ∨ k = n) (fun n k => by omega)).mono ?_
  rintro e w23 ⟨bf, rfl, hbn, hbz, hb, hon, hm⟩
  have H23 := Lib.hid hon
  have C23 := Lib.hid hm
  have C23_0 := Lib.hid (Mach.grow (S' := fun k => k = bm ∨ k = bc ∨ k = bd ∨ k = bf) C22_0.out hb (fun k hk => by (try simp only at hk); omega))
  have C23_1 := Lib.hid (Mach.grow (S' := fun k => k = bm ∨ k = bc ∨ k = bd ∨ k = bf) C22.out hb (fun k hk => by (try simp only at hk); omega))
  have hlt_bf : bm < bf := by omega
  have hlt_bc_bf : bc < bf := by have := C22_0.out.lt; omega
  have hlt_bd_bf : bd < bf := by have := C22.out.lt; omega
  have T23_0 := Lib.hid (T22_0.out.below hb)
  clear hon hm hb hbz hlt hbn
  have HZ := Lib.hid (H23.out.reset)
  clear H23
  go_wp2_with fail
  refine (c_open _ 2 9 30).mono ?_
  rintro e w24 ⟨fvw24, rfl, ho, hb⟩
  have hzw24 := HZ.out.mach.lt
  have H24 := Lib.hid (HZ.out.next hb)
  have T24_0 := Lib.hid (T23_0.out.below hb)
  have Ow24 := Lib.hid ho
  clear hb ho
  go_wp2_with fail
  have hz := H24.out.mach.lt
  refine (c_onOpen (kd := 6) (o := openD1 2 9 30) (qf := fvw24) (qa := nilS) (qk := nilS) (d := in0) (m' := kM6) (L := kL6) H24.out kD6 Ow24.out (fun k hk => ⟨by omega, by omega⟩) (by decide) (by decide) (by decide)).mono ?_
  rintro e w25 ⟨ra6, rc6, rfl, hon, hrd, hk⟩
  clear hz hzw24 Ow24
  have H25 := Lib.hid hon
  have hbx := H25.out.mach.lt.1
  have T25_0 := Lib.hid (T24_0.out.did hk (by omega))
  clear hbx
  have R25_0 := Lib.hid hrd
  clear hon hrd hk
  go_wp2_with fail
  refine (c_armL _ 2 30).mono ?_
  rintro e w26 ⟨rfl, hb⟩
  have H26 := Lib.hid (H25.out.next hb)
  have T26_0 := Lib.hid (T25_0.out.below hb)
  have R26_0 := Lib.hid (R25_0.out.below hb)
  clear hb
  go_wp2_with fail
  refine (c_armL _ 3 10).mono ?_
  rintro e w27 ⟨rfl, hb⟩
  have H27 := Lib.hid (H26.out.next hb)
  have T27_0 := Lib.hid (T26_0.out.below hb)
  have R27_0 := Lib.hid (R26_0.out.below hb)
  clear hb
  go_wp2_with fail
  refine (c_same (la := kL6) (lb := kL6) (R27_0.out.below ((Below.refl _ _).alloc (Nat.le_refl _) _)) (rd_lit rfl (by decide))).mono ?_
  rintro e w28 ⟨rfl, hb⟩
  have hb := below_of_alloc hb (by simp)
  have H28 := Lib.hid (H27.out.next hb)
  have T28_0 := Lib.hid (T27_0.out.below hb)
  clear hb
  rw [show decide (kL6 = kL6) = true from by decide +kernel]
  go_wp2_with fail
  refine (c_onState H28.out kS7).mono ?_
  rintro e w29 ⟨rfl, rfl⟩
  go_wp2_with fail
  refine (c_in _ 7).mono ?_
  rintro e w30 ⟨rfl, hb⟩
  have H30 := Lib.hid (H28.out.next hb)
  have T30_0 := Lib.hid (T28_0.out.below hb)
  clear hb
  go_wp2_with fail
  refine (c_onDo (m' := kM8) (L := kL8) H30.out 7 kD8).mono ?_
  rintro e w31 ⟨ra8, rc8, rfl, hon, hrd, hk⟩
  have H31 := Lib.hid hon
  have hbx := H31.out.mach.lt.1
  have T31_0 := Lib.hid (T30_0.out.did hk (by omega))
  clear hbx
  have R31_0 := Lib.hid hrd
  clear hon hrd hk
  go_wp2_with fail
  refine (c_armL _ 2 30).mono ?_
  rintro e w32 ⟨rfl, hb⟩
  have H32 := Lib.hid (H31.out.next hb)
  have T32_0 := Lib.hid (T31_0.out.below hb)
  have R32_0 := Lib.hid (R31_0.out.below hb)
  clear hb
  go_wp2_with fail
  refine (c_same (la := kL8) (lb := kL8) (R32_0.out.below ((Below.refl _ _).alloc (Nat.le_refl _) _)) (rd_lit rfl (by decide))).mono ?_
  rintro e w33 ⟨rfl, hb⟩
  have hb := below_of_alloc hb (by simp)
  have H33 := Lib.hid (H32.out.next hb)
  have T33_0 := Lib.hid (T32_0.out.below hb)
  clear hb
  rw [show decide (kL8 = kL8) = true from by decide +kernel]
  go_wp2_with fail
  refine (c_in _ 8).mono ?_
  rintro e w34 ⟨rfl, hb⟩
  have H34 := Lib.hid (H33.out.next hb)
  have T34_0 := Lib.hid (T33_0.out.below hb)
  clear hb
  go_wp2_with fail
  refine (c_onDo (m' := kM9) (L := kL9) H34.out 8 kD9).mono ?_
  rintro e w35 ⟨ra9, rc9, rfl, hon, hrd, hk⟩
  have H35 := Lib.hid hon
  have hbx := H35.out.mach.lt.1
  have T35_0 := Lib.hid (T34_0.out.did hk (by omega))
  clear hbx
  have R35_0 := Lib.hid hrd
  clear hon hrd hk
  go_wp2_with fail
  refine (c_armL _ 2 30).mono ?_
  rintro e w36 ⟨rfl, hb⟩
  have H36 := Lib.hid (H35.out.next hb)
  have T36_0 := Lib.hid (T35_0.out.below hb)
  have R36_0 := Lib.hid (R35_0.out.below hb)
  clear hb
  go_wp2_with fail
  refine (c_same (la := kL9) (lb := kL9) (R36_0.out.below ((Below.refl _ _).alloc (Nat.le_refl _) _)) (rd_lit rfl (by decide))).mono ?_
  rintro e w37 ⟨rfl, hb⟩
  have hb := below_of_alloc hb (by simp)
  have H37 := Lib.hid (H36.out.next hb)
  have T37_0 := Lib.hid (T36_0.out.below hb)
  clear hb
  rw [show decide (kL9 = kL9) = true from by decide +kernel]
  go_wp2_with fail
  refine (c_in _ 13).mono ?_
  rintro e w38 ⟨rfl, hb⟩
  have H38 := Lib.hid (H37.out.next hb)
  have T38_0 := Lib.hid (T37_0.out.below hb)
  clear hb
  go_wp2_with fail
  refine (c_onDo (m' := kM10) (L := kL10) H38.out 13 kD10).mono ?_
  rintro e w39 ⟨ra10, rc10, rfl, hon, hrd, hk⟩
  have H39 := Lib.hid hon
  have hbx := H39.out.mach.lt.1
  have T39_0 := Lib.hid (T38_0.out.did hk (by omega))
  clear hbx
  have R39_0 := Lib.hid hrd
  clear hon hrd hk
  go_wp2_with fail
  refine (c_armL _ 3 10).mono ?_
  rintro e w40 ⟨rfl, hb⟩
  have H40 := Lib.hid (H39.out.next hb)
  have T40_0 := Lib.hid (T39_0.out.below hb)
  have R40_0 := Lib.hid (R39_0.out.below hb)
  clear hb
  go_wp2_with fail
  refine (c_same (la := kL10) (lb := kL10) (R40_0.out.below ((Below.refl _ _).alloc (Nat.le_refl _) _)) (rd_lit rfl (by decide))).mono ?_
  rintro e w41 ⟨rfl, hb⟩
  have hb := below_of_alloc hb (by simp)
  have H41 := Lib.hid (H40.out.next hb)
  have T41_0 := Lib.hid (T40_0.out.below hb)
  clear hb
  rw [show decide (kL10 = kL10) = true from by decide +kernel]
  go_wp2_with fail
  refine (c_onSession H41.out kSm_kM10 kO11 kP11).mono ?_
  rintro e w42 ⟨fa, fc, sa, sc, ra, rc, ka, kc, rfl, _, hb⟩
  have H42 := Lib.hid (H41.out.next hb)
  have T42_0 := Lib.hid (T41_0.out.below hb)
  clear hb
  go_wp2_with fail
  refine (c_in _ 12).mono ?_
  rintro e w43 ⟨rfl, hb⟩
  have hb := below_of_alloc hb (by simp)
  have H43 := Lib.hid (H42.out.next hb)
  have T43_0 := Lib.hid (T42_0.out.below hb)
  clear hb
  go_wp2_with fail
  refine (c_onDo (m' := kM12) (L := kL12) H43.out 12 kD12).mono ?_
  rintro e w44 ⟨ra12, rc12, rfl, hon, hrd, hk⟩
  have H44 := Lib.hid hon
  have hbx := H44.out.mach.lt.1
  have T44_0 := Lib.hid (T43_0.out.did hk (by omega))
  clear hbx
  have R44_0 := Lib.hid hrd
  clear hon hrd hk
  go_upto_region 12 with fail
  refine seg12 H44 T44_0 hne (Lib.hid (fun _ _ d _ _ h => by cases d <;> exact h)) (fun u142 u143 u144 u145 u146 u147 u148 u149 u150 u151 u152 u153 u154 u155 u156 u157 u158 u159 u160 u161 u162 u163 u164 u165 u166 u167 u168 u169 u170 u171 u172 u173 u174 u175 u176 u177 u178 u179 u180 u181 u182 u183 u184 wr12 hon ht => ?_)
  have HS12 := Lib.hid hon
  have TS12 := Lib.hid ht
  clear hon ht
  have Lbc := Lib.hid (On.later HS12.out C23_0.out (by omega) (Or.inl rfl))
  have Lbd := Lib.hid (On.later HS12.out C23_1.out (by omega) (Or.inl rfl))
  have Lbf := Lib.hid (On.later HS12.out C23.out (by omega) (Or.inl rfl))
  clear C23_0 C23_1 C23
  go_wp2_with fail
  refine (c_open _ 2 9 30).mono ?_
  rintro e w80 ⟨fsix, rfl, ho, hb⟩
  obtain ⟨a6, c6, rfl, _⟩ := ho.fams.open
  have Lbc := Lib.hid (Lbc.out.below hb)
  have Lbd := Lib.hid (Lbd.out.below hb)
  have Lbf := Lib.hid (Lbf.out.below hb)
  have H80 := Lib.hid (HS12.out.next hb)
  clear hb ho
  unfold openV
  go_upto_region 17 with fail
  have hlt_bc := Lbc.out.lt.2
  have hlt_bd := Lbd.out.lt.2
  have hlt_bf := Lbf.out.lt.2
  have hb := ((Below.refl _ w80).alloc (Nat.le_refl _) (.cells #[.int .u32 (openD1 2 9 30).asn, .int .i64 (openD1 2 9 30).hold, .int .u32 (openD1 2 9 30).id, .slice (some ⟨w80.heap.size + 1, 0, none⟩) 1 1, .bool (openD1 2 9 30).four, .bool (openD1 2 9 30).refresh, .slice none 0 0, .bool (openD1 2 9 30).hasGR, .bool (openD1 2 9 30).again, .int .i64 (openD1 2 9 30).time, .slice none 0 0] 32)).alloc (by simp) (.cells #[.int .i64 2] 3)
  obtain ⟨ws, hw⟩ : ∃ x, x = (w80.alloc (.cells #[.int .u32 (openD1 2 9 30).asn, .int .i64 (openD1 2 9 30).hold, .int .u32 (openD1 2 9 30).id, .slice (some ⟨w80.heap.size + 1, 0, none⟩) 1 1, .bool (openD1 2 9 30).four, .bool (openD1 2 9 30).refresh, .slice none 0 0, .bool (openD1 2 9 30).hasGR, .bool (openD1 2 9 30).again, .int .i64 (openD1 2 9 30).time, .slice none 0 0] 32)).alloc (.cells #[.int .i64 2] 3) := ⟨_, rfl⟩
  obtain ⟨bs, hbs⟩ : ∃ b, b = w80.heap.size := ⟨_, rfl⟩
  have hrow : ws.heap[bs]? = some (.cells (openCells sixD (.slice (some ⟨bs + 1, 0, none⟩) 1 1) nilS nilS) 32 (0, 0)) := by rw [hw, hbs]; exact heap_old1 (heap_new1 _ _ _ rfl)
  have hrow2 : ws.heap[bs + 1]? = some (.cells #[.int .i64 2] 3 (0, 0)) := by rw [hw, hbs]; exact heap_new1 _ _ _ (by simp)
  rw [← hw] at hb ⊢
  rw [← hbs]
  rw [← hbs] at hlt_bc hlt_bd hlt_bf
  have H81 := Lib.hid (H80.out.next hb)
  have Zbc81_0 := Lib.hid (Lbc.out.below hb)
  have Zbd81_0 := Lib.hid (Lbd.out.below hb)
  have Zbf81_0 := Lib.hid (Lbf.out.below hb)
  have SIX := Lib.hid (show SixAt bs ws from ⟨hrow, hrow2⟩)
  clear hb hw hrow hrow2 hbs
  have HYbc81 := Lib.hid (H81.out.switch Zbc81_0.out)
  have hltS : bm < bc ∧ bc < bd ∧ bd < bf ∧ bf < bs := ⟨by omega, by omega, by omega, by omega⟩
  go_wp2_with fail
  have hlt := HYbc81.out.mach.lt
  refine (c_onCopy HYbc81.out (fun n k => k = bm ∨ k = bc ∨ k = bd ∨ k = bf ∨ k = n) (fun n k => by omega)).mono ?_
  rintro e w82 ⟨bg, rfl, hbn, hbz, hb, hon, hm⟩
  have H82 := Lib.hid hon
  have C82 := Lib.hid hm
  have C82_0 := Lib.hid (Mach.grow (S' := fun k => k = bm ∨ k = bc ∨ k = bd ∨ k = bf ∨ k = bg) Zbd81_0.out hb (fun k hk => by (try simp only at hk); omega))
  have C82_1 := Lib.hid (Mach.grow (S' := fun k => k = bm ∨ k = bc ∨ k = bd ∨ k = bf ∨ k = bg) Zbf81_0.out hb (fun k hk => by (try simp only at hk); omega))
  have hlt_bg : bc < bg := by omega
  have hlt_bd_bg : bd < bg := by have := Zbd81_0.out.lt; omega
  have hlt_bf_bg : bf < bg := by have := Zbf81_0.out.lt; omega
  have hs_bg : bs + 1 < bg := by have := (Array.getElem?_eq_some_iff.1 SIX.out.list).1; omega
  have T82_0 := Lib.hid (SIX.out.below hb)
  clear hon hm hb hbz hlt hbn
  go_wp2_with fail
  have hlt := H82.out.mach.lt
  refine (c_onCopy H82.out (fun n k => k = bm ∨ k = bc ∨ k = bd ∨ k = bf ∨ k = bg ∨ k = n) (fun n k => by omega)).mono ?_
  rintro e w83 ⟨bh, rfl, hbn, hbz, hb, hon, hm⟩
  have H83 := Lib.hid hon
  have C83 := Lib.hid hm
  have C83_0 := Lib.hid (Mach.grow (S' := fun k => k = bm ∨ k = bc ∨ k = bd ∨ k = bf ∨ k = bg ∨ k = bh) C82_0.out hb (fun k hk => by (try simp only at hk); omega))
  have C83_1 := Lib.hid (Mach.grow (S' := fun k => k = bm ∨ k = bc ∨ k = bd ∨ k = bf ∨ k = bg ∨ k = bh) C82_1.out hb (fun k hk => by (try simp only at hk); omega))
  have C83_2 := Lib.hid (Mach.grow (S' := fun k => k = bm ∨ k = bc ∨ k = bd ∨ k = bf ∨ k = bg ∨ k = bh) C82.out hb (fun k hk => by (try simp only at hk); omega))
  have hlt_bh : bc < bh := by omega
  have hlt_bd_bh : bd < bh := by have := C82_0.out.lt; omega
  have hlt_bf_bh : bf < bh := by have := C82_1.out.lt; omega
  have hlt_bg_bh : bg < bh := by have := C82.out.lt; omega
  have hs_bh : bs + 1 < bh := by have := (Array.getElem?_eq_some_iff.1 T82_0.out.list).1; omega
  have T83_0 := Lib.hid (T82_0.out.below hb)
  clear hon hm hb hbz hlt hbn
  go_wp2_with fail
  refine (c_open _ 3 9 30).mono ?_
  rintro e w84 ⟨fvw84, rfl, ho, hb⟩
  have hzw84 := H83.out.mach.lt
  have H84 := Lib.hid (H83.out.next hb)
  have T84_0 := Lib.hid (T83_0.out.below hb)
  have Zbd84_0 := Lib.hid (C83_0.out.below hb)
  have Zbf84_0 := Lib.hid (C83_1.out.below hb)
  have Zbg84_0 := Lib.hid (C83_2.out.below hb)
  have Zbh84_0 := Lib.hid (C83.out.below hb)
  have Ow84 := Lib.hid ho
  clear hb ho
  go_wp2_with fail
  have hz := H84.out.mach.lt
  refine (c_onOpen (kd := 6) (o := openD1 3 9 30) (qf := fvw84) (qa := nilS) (qk := nilS) (d := in0) (m' := kM20) (L := kL20) H84.out kD20 Ow84.out (fun k hk => ⟨by omega, by omega⟩) (by decide) (by decide) (by decide)).mono ?_
  rintro e w85 ⟨ra20, rc20, rfl, hon, hrd, hk⟩
  clear hz hzw84 Ow84
  have H85 := Lib.hid hon
  have hbx := H85.out.mach.lt.1
  have T85_0 := Lib.hid (T84_0.out.did hk (by omega))
  clear hbx
  have R85_0 := Lib.hid hrd
  have Zbd85_0 := Lib.hid (Zbd84_0.out.other hk (by omega) (by omega))
  have Zbf85_0 := Lib.hid (Zbf84_0.out.other hk (by omega) (by omega))
  have Zbg85_0 := Lib.hid (Zbg84_0.out.other hk (by omega) (by omega))
  have Zbh85_0 := Lib.hid (Zbh84_0.out.other hk (by omega) (by omega))
  clear hon hrd hk
  go_wp2_with fail
  refine (c_note (y := actK 2) R85_0.out rfl rfl rfl).mono ?_
  rintro e w86 ⟨rfl, rfl⟩
  have HYbd86 := Lib.hid (H85.out.switch Zbd85_0.out)
  go_wp2_with fail
  refine (c_in _ 7).mono ?_
  rintro e w87 ⟨rfl, hb⟩
  have H87 := Lib.hid (HYbd86.out.next hb)
  have T87_0 := Lib.hid (T85_0.out.below hb)
  have Zbf87_0 := Lib.hid (Zbf85_0.out.below hb)
  have Zbg87_0 := Lib.hid (Zbg85_0.out.below hb)
  have Zbh87_0 := Lib.hid (Zbh85_0.out.below hb)
  clear hb
  go_wp2_with fail
  refine (c_onDo (m' := kM21) (L := kL21) H87.out 7 kD21).mono ?_
  rintro e w88 ⟨ra21, rc21, rfl, hon, hrd, hk⟩
  have H88 := Lib.hid hon
  have hbx := H88.out.mach.lt.1
  have T88_0 := Lib.hid (T87_0.out.did hk (by omega))
  clear hbx
  have R88_0 := Lib.hid hrd
  have Zbf88_0 := Lib.hid (Zbf87_0.out.other hk (by omega) (by omega))
  have Zbg88_0 := Lib.hid (Zbg87_0.out.other hk (by omega) (by omega))
  have Zbh88_0 := Lib.hid (Zbh87_0.out.other hk (by omega) (by omega))
  clear hon hrd hk
  go_wp2_with fail
  refine (c_note (y := actK 2) R88_0.out rfl rfl rfl).mono ?_
  rintro e w89 ⟨rfl, rfl⟩
  have HYbf89 := Lib.hid (H88.out.switch Zbf88_0.out)
  go_wp2_with fail
  refine (c_open _ 2 7 30).mono ?_
  rintro e w90 ⟨fvw90, rfl, ho, hb⟩
  have hzw90 := HYbf89.out.mach.lt
  have H90 := Lib.hid (HYbf89.out.next hb)
  have T90_0 := Lib.hid (T88_0.out.below hb)
  have Zbg90_0 := Lib.hid (Zbg88_0.out.below hb)
  have Zbh90_0 := Lib.hid (Zbh88_0.out.below hb)
  have Ow90 := Lib.hid ho
  clear hb ho
  go_wp2_with fail
  have hz := H90.out.mach.lt
  refine (c_onOpen (kd := 6) (o := openD1 2 7 30) (qf := fvw90) (qa := nilS) (qk := nilS) (d := in0) (m' := kM22) (L := kL22) H90.out kD22 Ow90.out (fun k hk => ⟨by omega, by omega⟩) (by decide) (by decide) (by decide)).mono ?_
  rintro e w91 ⟨ra22, rc22, rfl, hon, hrd, hk⟩
  clear hz hzw90 Ow90
  have H91 := Lib.hid hon
  have hbx := H91.out.mach.lt.1
  have T91_0 := Lib.hid (T90_0.out.did hk (by omega))
  clear hbx
  have R91_0 := Lib.hid hrd
  have Zbg91_0 := Lib.hid (Zbg90_0.out.other hk (by omega) (by omega))
  have Zbh91_0 := Lib.hid (Zbh90_0.out.other hk (by omega) (by omega))
  clear hon hrd hk
  go_wp2_with fail
  refine (c_note (y := actK 2) R91_0.out rfl rfl rfl).mono ?_
  rintro e w92 ⟨rfl, rfl⟩
  have HYbg92 := Lib.hid (H91.out.switch Zbg91_0.out)
  have c6 := row_cell T91_0.out.row
  go_wp2_with fail
  have hz := HYbg92.out.mach.lt
  have hz2 := (Array.getElem?_eq_some_iff.1 T91_0.out.list).1
  clear c6
  refine (c_onOpen (kd := 6) (o := sixD) (qf := .slice (some ⟨bs + 1, 0, none⟩) 1 1) (qa := nilS) (qk := nilS) (d := in0) (m' := kM23) (L := kL23) HYbg92.out kD23 T91_0.out.openAt (fun k hk => ⟨by omega, by omega⟩) (by decide) (by decide) (by decide)).mono ?_
  rintro e w93 ⟨ra23, rc23, rfl, hon, hrd, hk⟩
  clear hz hz2
  have H93 := Lib.hid hon
  have R93_0 := Lib.hid hrd
  have Zbh93_0 := Lib.hid (Zbh91_0.out.other hk (by omega) (by omega))
  clear hon hrd hk
  go_wp2_with fail
  refine (c_note (y := actK 2) R93_0.out rfl rfl rfl).mono ?_
  rintro e w94 ⟨rfl, rfl⟩
  have HYbh94 := Lib.hid (H93.out.switch Zbh93_0.out)
  go_wp2_with fail
  refine (c_in _ 5).mono ?_
  rintro e w95 ⟨rfl, hb⟩
  have H95 := Lib.hid (HYbh94.out.next hb)
  clear hb
  go_wp2_with fail
  refine (c_onDo (m' := kM24) (L := kL24) H95.out 5 kD24).mono ?_
  rintro e w96 ⟨ra24, rc24, rfl, hon, hrd, hk⟩
  have H96 := Lib.hid hon
  have R96_0 := Lib.hid hrd
  clear hon hrd hk
  go_wp2_with fail
  refine (c_armL _ 1 30).mono ?_
  rintro e w97 ⟨rfl, hb⟩
  have H97 := Lib.hid (H96.out.next hb)
  have R97_0 := Lib.hid (R96_0.out.below hb)
  clear hb
  go_wp2_with fail
  refine (c_same (la := kL24) (lb := kL24) (R97_0.out.below ((Below.refl _ _).alloc (Nat.le_refl _) _)) (rd_lit rfl (by decide))).mono ?_
  rintro e w98 ⟨rfl, hb⟩
  have hb := below_of_alloc hb (by simp)
  have H98 := Lib.hid (H97.out.next hb)
  clear hb
  rw [show decide (kL24 = kL24) = true from by decide +kernel]
  go_wp2_with fail
  refine (c_onState H98.out kS25).mono ?_
  rintro e w99 ⟨rfl, rfl⟩
  go_wp2_with fail
  have hB := H98.out.below
  refine (c_up _).mono ?_
  rintro e w100 ⟨ba, rfl, hm, hb⟩
  have H100 := Lib.hid (On.of_up hm hB hb)
  clear hB hm hb
  have HaM := Lib.hid H100.out.mach
  go_wp2_with fail
  have hB := H100.out.below
  refine (c_up _).mono ?_
  rintro e w101 ⟨bb, rfl, hm, hb⟩
  have H101 := Lib.hid (On.of_up hm hB hb)
  have Zba101 := Lib.hid (HaM.out.below hb)
  clear hB hm hb
  have hab : ba < bb := by have h1 := H100.out.mach.lt.2; have h2 := H101.out.mach.lt.1; omega
  have haz := H100.out.mach.lt.2
  have HbM := Lib.hid H101.out.mach
  have hb0 := H100.out.hb
  have hb1 := H101.out.hb
  have HA := Lib.hid (On.of_mach Zba101.out H101.out.below hb0)
  clear hb0 H100 HaM Zba101 H101
  go_wp2_with fail
  refine (c_onDo (m' := kM26) (L := kL26) HA.out 2 (d := ⟨0, 6, 3⟩) kD26).mono ?_
  rintro e w102 ⟨ra26, rc26, rfl, hon, hrd, hk⟩
  have H102 := Lib.hid hon
  have R102_0 := Lib.hid hrd
  have Zbb102_0 := Lib.hid (HbM.out.apart hk (by have := H102.out.mach.lt; omega))
  clear hon hrd hk
  go_wp2_with fail
  refine (c_note (y := actK 2) R102_0.out rfl rfl rfl).mono ?_
  rintro e w103 ⟨rfl, rfl⟩
  have HBB := Lib.hid (On.of_mach Zbb102_0.out H102.out.below hb1)
  clear Zbb102_0 H102 hb1 hab haz
  go_wp2_with fail
  refine (c_in _ 6).mono ?_
  rintro e w104 ⟨rfl, hb⟩
  have H104 := Lib.hid (HBB.out.next hb)
  clear hb
  go_wp2_with fail
  refine (c_onDo (m' := kM27) (L := kL27) H104.out 6 kD27).mono ?_
  rintro e w105 ⟨ra27, rc27, rfl, hon, hrd, hk⟩
  have H105 := Lib.hid hon
  have R105_0 := Lib.hid hrd
  clear hon hrd hk
  go_wp2_with fail
  refine (c_note (y := actK 2) R105_0.out rfl rfl rfl).mono ?_
  rintro e w106 ⟨rfl, rfl⟩
  have BB := Lib.hid H105.out.below
  clear H105
  go_upto_region 23 with fail
  refine wp_region_lit ?_
  refine wpList_plain rfl fun K1 hK1 => ?_
  go_simp
  refine (c_peerV _).mono ?_
  rintro e w107 ⟨pc, rfl, hpc, hpz, hb⟩
  have B107 := Lib.hid (below_trans BB.out hb (Nat.le_refl _))
  clear hb
  refine hK1 _ _ ?_
  refine wpList_plain rfl fun K2 hK2 => ?_
  go_simp
  refine hK2 _ _ ?_
  refine wpList_store_new (c := peerZ) rfl (.tmp 15) (.tmp 258) rfl rfl pc rfl rfl (by rw [hpz]; kernel_rfl) (by rw [hpz]; rfl) (peer_one hpc.out) ?_
  have hb := (Below.refl _ w107).alloc (Nat.le_refl _) (.cells pc 28)
  have hr := heap_new1 w107 (.cells pc 28) _ rfl
  obtain ⟨wp, hw⟩ : ∃ x, x = w107.alloc (.cells pc 28) := ⟨_, rfl⟩
  obtain ⟨bp, hbp⟩ : ∃ b, b = w107.heap.size := ⟨_, rfl⟩
  have hbz := B107.out.size
  rw [← hw] at hb hr ⊢
  rw [← hbp] at hr hbz ⊢
  have B108 := Lib.hid (below_trans B107.out hb (Nat.le_refl _))
  have k9 : wp.cell? ⟨bp, 9, none⟩ = some (.bool false) := by rw [row_cell hr]; exact peer_nine hpc.out
  have f9 := row_free hr 9
  have HR := Lib.hid hr
  clear hw hbp hb hr
  go_upto_region 25 with fail
  have r9 := heap_setCell_same wp bp 9 pc _ (.bool true) HR.out
  have BQ := Lib.hid (B108.out.setCell (p := ⟨bp, 9, none⟩) (by simp; omega) (.bool true))
  obtain ⟨wq, hw⟩ : ∃ x, x = wp.setCell ⟨bp, 9, none⟩ (.bool true) := ⟨_, rfl⟩
  rw [← hw] at r9 BQ ⊢
  have R9 := Lib.hid r9
  clear hw r9 k9 f9 HR B108
  have PA := Lib.hid (peer_passive hpc.out)
  have hpq : (pc.setIfInBounds 9 (.bool true)).size = 23 := by simpa using hpz
  generalize pc.setIfInBounds 9 (.bool true) = pq at *
  clear hpz
  refine wp_region_K2 [] (fun W : World => W.heap[bp]? = some (.cells pq 28 (0, 0))) (fun _ => True) rfl R9.out trivial (fun _ _ => ?_)
  refine wpAnyK_take 0 (v := .agg pq) rfl (by kernel_rfl) (fun _ _ _ h => h) (.inl ⟨by rfl, fun w hS => ?_⟩) R9.out ?_
  · exact exec_load_row 28 (.tmp 15) rfl bp (by go_simp) 28 pq _ hS Try.underlying28 rfl (by rw [hpq]; exact i_Peer)
  refine wpAnyK_one 1 (by kernel_rfl) rfl (by rfl) (fun K' hK => ?_)
  go_wp2_with fail
  refine (c_open _ 1 7 0).mono ?_
  rintro e w109 ⟨fvp, rfl, ho, hb⟩
  have hb := (Below.refl _ wq).drew.trans hb
  have B109 := Lib.hid (below_trans BQ.out hb (Nat.le_refl _))
  have R9a := Lib.hid (below_row hb R9.out)
  have OP := Lib.hid ho
  clear hb ho
  go_wp2_with fail
  refine stillS R9a.out (fun _ => ?_)
  refine wpAnyK_one 2 (by kernel_rfl) rfl (by rfl) (fun K' hK => ?_)
  go_wp2_with fail
  refine (c_New PA.out OP.out (by decide) (by decide) (by decide)).mono ?_
  rintro e w110 hn
  obtain ⟨bx, rfl, hm, hb⟩ := Mach.of_new hn (by decide)
  have H110 := Lib.hid (show On w w.heap.size w110 (fun k => k = bx) w110 bx kMp from ⟨hm.lower B109.out.size, below_trans B109.out hb (Nat.le_refl _), Keeps.refl _ _, fun k hk => hk ▸ hm.lt.2, Nat.le_refl _⟩)
  have R9b := Lib.hid (below_row hb R9a.out)
  go_wp2_with fail
  refine stillS R9b.out (fun _ => ?_)
  clear hn hm hb
  refine wpAnyK_take 3 (v := ?_) rfl (by kernel_rfl) (fun _ _ _ h => h) (.inl ⟨by rfl, ?_⟩) R9b.out ?_
  rotate_left
  · intro w hS; clear hS; go_simp; with_reducible rfl
  refine wpAnyK_take 4 (v := ?_) rfl (by kernel_rfl) (fun _ _ _ h => h) (.inl ⟨by rfl, ?_⟩) R9b.out ?_
  rotate_left
  · intro w hS; clear hS; go_simp; with_reducible rfl
  refine wpAnyK_take 5 (v := ?_) rfl (by kernel_rfl) (fun _ _ _ h => h) (.inl ⟨by rfl, ?_⟩) R9b.out ?_
  rotate_left
  · intro w hS; clear hS; go_simp; with_reducible rfl
  refine wpAnyK_take 6 (v := ?_) rfl (by kernel_rfl) (fun _ _ _ h => h) (.inl ⟨by rfl, ?_⟩) R9b.out ?_
  rotate_left
  · intro w hS; clear hS; go_simp; with_reducible rfl
  refine wpAnyK_take 7 (v := ?_) rfl (by kernel_rfl) (fun _ _ _ h => h) (.inl ⟨by rfl, ?_⟩) R9b.out ?_
  rotate_left
  · intro w hS; clear hS; go_simp; with_reducible rfl
  refine wpAnyK_done (by kernel_rfl) ?_
  go_simp
  clear PA OP R9 R9a R9b hpq
  go_wp2_with fail
  refine (c_in _ 1).mono ?_
  rintro e w111 ⟨rfl, hb⟩
  have H111 := Lib.hid (H110.out.next hb)
  clear hb
  go_wp2_with fail
  refine (c_onDo (m' := kM28) (L := kL28) H111.out 1 kD28).mono ?_
  rintro e w112 ⟨ra28, rc28, rfl, hon, hrd, hk⟩
  have H112 := Lib.hid hon
  have R112_0 := Lib.hid hrd
  clear hon hrd hk
  go_wp2_with fail
  refine (c_same (la := kL28) (lb := []) R112_0.out (.inl ⟨none, rfl, rfl⟩ : Rd (fun _ => True) _ 6 cT nilS [])).mono ?_
  rintro e w113 ⟨rfl, hb⟩
  have H113 := Lib.hid (H112.out.next hb)
  clear hb
  rw [show decide (kL28 = []) = true from by decide +kernel]
  go_wp2_with fail
  refine (c_onState H113.out kS29).mono ?_
  rintro e w114 ⟨rfl, rfl⟩
  go_wp2_with fail
  refine (c_in _ 11).mono ?_
  rintro e w115 ⟨rfl, hb⟩
  have H115 := Lib.hid (H113.out.next hb)
  clear hb
  go_wp2_with fail
  refine (c_onDo (m' := kM30) (L := kL30) H115.out 11 kD30).mono ?_
  rintro e w116 ⟨ra30, rc30, rfl, hon, hrd, hk⟩
  have H116 := Lib.hid hon
  have R116_0 := Lib.hid hrd
  clear hon hrd hk
  go_wp2_with fail
  refine (c_same (la := kL30) (lb := []) R116_0.out (.inl ⟨none, rfl, rfl⟩ : Rd (fun _ => True) _ 6 cT nilS [])).mono ?_
  rintro e w117 ⟨rfl, hb⟩
  have H117 := Lib.hid (H116.out.next hb)
  clear hb
  rw [show decide (kL30 = []) = true from by decide +kernel]
  go_wp2_with fail
  refine (c_in _ 3).mono ?_
  rintro e w118 ⟨rfl, hb⟩
  have H118 := Lib.hid (H117.out.next hb)
  clear hb
  go_wp2_with fail
  refine (c_onDo (m' := kM31) (L := kL31) H118.out 3 kD31).mono ?_
  rintro e w119 ⟨ra31, rc31, rfl, hon, hrd, hk⟩
  have H119 := Lib.hid hon
  have R119_0 := Lib.hid hrd
  clear hon hrd hk
  go_wp2_with fail
  refine (c_open _ 2 9 30).mono ?_
  rintro e w120 ⟨fvw120, rfl, ho, hb⟩
  have hzw120 := H119.out.mach.lt
  have H120 := Lib.hid (H119.out.next hb)
  have Ow120 := Lib.hid ho
  clear hb ho
  go_wp2_with fail
  have hz := H120.out.mach.lt
  refine (c_onOpen (kd := 6) (o := openD1 2 9 30) (qf := fvw120) (qa := nilS) (qk := nilS) (d := in0) (m' := kM32) (L := kL32) H120.out kD32 Ow120.out (fun k hk => ⟨by omega, by omega⟩) (by decide) (by decide) (by decide)).mono ?_
  rintro e w121 ⟨ra32, rc32, rfl, hon, hrd, hk⟩
  clear hz hzw120 Ow120
  have H121 := Lib.hid hon
  have R121_0 := Lib.hid hrd
  clear hon hrd hk
  go_wp2_with fail
  refine (c_same (la := kL32) (lb := kL32) (R121_0.out.below ((Below.refl _ _).alloc (Nat.le_refl _) _)) (rd_lit rfl (by decide))).mono ?_
  rintro e w122 ⟨rfl, hb⟩
  have hb := below_of_alloc hb (by simp)
  have H122 := Lib.hid (H121.out.next hb)
  clear hb
  rw [show decide (kL32 = kL32) = true from by decide +kernel]
  go_wp2_with fail
  refine (c_in _ 7).mono ?_
  rintro e w123 ⟨rfl, hb⟩
  have H123 := Lib.hid (H122.out.next hb)
  clear hb
  go_wp2_with fail
  refine (c_onDo (m' := kM33) (L := kL33) H123.out 7 kD33).mono ?_
  rintro e w124 ⟨ra33, rc33, rfl, hon, hrd, hk⟩
  have H124 := Lib.hid hon
  have R124_0 := Lib.hid hrd
  clear hon hrd hk
  go_wp2_with fail
  refine (c_same (la := kL33) (lb := kL33) (R124_0.out.below ((Below.refl _ _).alloc (Nat.le_refl _) _)) (rd_lit rfl (by decide))).mono ?_
  rintro e w125 ⟨rfl, hb⟩
  have hb := below_of_alloc hb (by simp)
  have H125 := Lib.hid (H124.out.next hb)
  clear hb
  rw [show decide (kL33 = kL33) = true from by decide +kernel]
  go_wp2_with fail
  refine (c_in _ 5).mono ?_
  rintro e w126 ⟨rfl, hb⟩
  have H126 := Lib.hid (H125.out.next hb)
  clear hb
  go_wp2_with fail
  refine (c_onDo (m' := kM34) (L := kL34) H126.out 5 kD34).mono ?_
  rintro e w127 ⟨ra34, rc34, rfl, hon, hrd, hk⟩
  have H127 := Lib.hid hon
  have R127_0 := Lib.hid hrd
  clear hon hrd hk
  go_wp2_with fail
  refine (c_armL _ 1 30).mono ?_
  rintro e w128 ⟨rfl, hb⟩
  have H128 := Lib.hid (H127.out.next hb)
  have R128_0 := Lib.hid (R127_0.out.below hb)
  clear hb
  go_wp2_with fail
  refine (c_same (la := kL34) (lb := kL34) (R128_0.out.below ((Below.refl _ _).alloc (Nat.le_refl _) _)) (rd_lit rfl (by decide))).mono ?_
  rintro e w129 ⟨rfl, hb⟩
  have hb := below_of_alloc hb (by simp)
  have H129 := Lib.hid (H128.out.next hb)
  clear hb
  rw [show decide (kL34 = kL34) = true from by decide +kernel]
  have BB := Lib.hid H129.out.below
  clear H129
  go_wp2_with fail
  refine (c_open _ 1 7 90).mono ?_
  rintro e w130 ⟨fvq, rfl, ho, hb⟩
  have OQ := Lib.hid ho
  clear ho
  have B130 := Lib.hid (below_trans BB.out hb (Nat.le_refl _))
  clear hb
  go_wp2_with fail
  refine (c_New (p := ⟨2, 0, false⟩) ⟨rfl, rfl, rfl, rfl⟩ OQ.out (by decide) (by decide) (by decide)).mono ?_
  rintro e w131 hn
  obtain ⟨rfl, hb⟩ := New_no hn (by decide)
  clear hn OQ
  have B131 := Lib.hid (below_trans B130.out hb (Nat.le_refl _))
  clear hb
  go_wp2_with fail
  refine (c_peerV _).mono ?_
  rintro e w132 ⟨pc2, rfl, hpc2, hpz2, hb⟩
  have B132 := Lib.hid (below_trans B131.out hb (Nat.le_refl _))
  clear hb
  go_wp2_with fail
  refine (c_New (o := openNone) (qf := nilS) (qa := nilS) (qk := nilS) (peer_at hpc2.out) (OpenAt.none (fun _ => False) _) (by decide) (by decide) (by decide)).mono ?_
  rintro e w133 hn
  obtain ⟨rfl, hb⟩ := New_no hn (by decide)
  clear hn hpc2 hpz2
  have B133 := Lib.hid (below_trans B132.out hb (Nat.le_refl _))
  clear hb
  go_wp2_with fail
  refine (n_Session (.inl rfl)).mono ?_
  rintro e w134 ⟨rfl, hb⟩
  have hr := below_row hb (heap_new1 _ _ _ rfl)
  have NM := Lib.hid (show NoMach (some ⟨w133.heap.size, 0, none⟩) w134 from .inr ⟨_, rfl, by rw [row_cell hr]; rfl⟩)
  clear hr
  have hb := below_of_alloc hb (by simp)
  have B134 := Lib.hid (below_trans B133.out hb (Nat.le_refl _))
  clear hb
  go_wp2_with fail
  refine (n_Theirs (NM.out.below ((Below.refl _ _).alloc (Nat.le_refl _) _))).mono ?_
  rintro e w135 ⟨rfl, hb⟩
  have hb := below_of_alloc hb (by simp)
  have B135 := Lib.hid (below_trans B134.out hb (Nat.le_refl _))
  have T135_0 := Lib.hid (NM.out.below hb)
  clear hb
  go_wp2_with fail
  refine (c_works _).mono ?_
  rintro e w136 ⟨rfl, hb⟩
  have hb := below_of_alloc hb (by simp)
  have B136 := Lib.hid (below_trans B135.out hb (Nat.le_refl _))
  have T136_0 := Lib.hid (T135_0.out.below hb)
  clear hb
  go_wp2_with fail
  refine (c_in _ 1).mono ?_
  rintro e w137 ⟨rfl, hb⟩
  have B137 := Lib.hid (below_trans B136.out hb (Nat.le_refl _))
  have T137_0 := Lib.hid (T136_0.out.below hb)
  clear hb
  go_wp2_with fail
  refine (n_Do (.inl rfl) 1).mono ?_
  rintro e w138 ⟨rfl, hb⟩
  have B138 := Lib.hid (below_trans B137.out hb (Nat.le_refl _))
  have T138_0 := Lib.hid (T137_0.out.below hb)
  clear hb
  go_wp2_with fail
  refine (c_in _ 1).mono ?_
  rintro e w139 ⟨rfl, hb⟩
  have B139 := Lib.hid (below_trans B138.out hb (Nat.le_refl _))
  have T139_0 := Lib.hid (T138_0.out.below hb)
  clear hb
  go_wp2_with fail
  refine (n_Do T139_0.out 1).mono ?_
  rintro e w140 ⟨rfl, hb⟩
  have B140 := Lib.hid (below_trans B139.out hb (Nat.le_refl _))
  have T140_0 := Lib.hid (T139_0.out.below hb)
  clear hb
  go_wp2_with fail
  refine (n_State (.inl rfl)).mono ?_
  rintro e w141 ⟨rfl, rfl⟩
  go_wp2_with fail
  refine (n_State T140_0.out).mono ?_
  rintro e w142 ⟨rfl, rfl⟩
  go_wp2_with fail
  refine (n_Copy (.inl rfl)).mono ?_
  rintro e w143 ⟨rfl, rfl⟩
  go_wp2_with fail
  refine (n_Copy T140_0.out).mono ?_
  rintro e w144 ⟨rfl, rfl⟩
  go_wp2
  go_ret
  exact ⟨rfl, B140.out⟩
end Go.Proofs.Ytnbopmpbgopafaa
