/- heraldlaw20.FsmKnown: a region. -/
import Derived.Test.YtnbopmpbgopafaaKnownD
namespace Go.Proofs.Ytnbopmpbgopafaa
open Go.RowKit
variable {A B : Nat → Prop}


noncomputable def code3 : Code := ((Try.f6.body.bind (regionOf 3)).getD .skip)
set_option maxRecDepth 1000000 in
set_option maxHeartbeats 20000000 in
theorem seg3 {K' : Act → World → Prop} {Q' : Exit → Act → World → Prop} {w0 wz wq : World} {base bm br : Nat} {S : Nat → Prop} {s0 s2 s4 s5 s6 s7 s8 s9 s10 s11 s12 s13 s14 s15 s16 s17 s18 s19 s20 s21 s22 s23 s24 s25 s26 s27 s28 s29 s30 s31 s32 s33 s34 s35 s36 s37 s38 s39 s40 s41 s42 s43 s44 s45 s46 s47 s48 s49 s50 s51 s52 s53 s54 s55 s56 s57 s58 s59 s60 s61 s62 s63 s64 s65 s66 s67 s68 s69 s70 s71 s72 s73 s74 s75 s76 s77 s78 s79 s80 s81 s82 s83 s84 s85 s86 s87 s88 s89 s90 s91 s92 s93 s94 s95 s96 s97 s98 s99 s100 s101 s102 s103 s104 s105 s106 s107 s108 s109 s110 s111 s112 s113 s114 s115 s116 s117 s118 s119 s120 s121 s122 s123 s124 s125 s126 s127 s128 s129 s130 s131 s132 s133 s134 s135 s136 s137 s138 s139 s140 s141 s142 s143 s144 s145 s146 s147 s148 s149 s150 s151 s152 s153 s154 s155 s156 s157 s158 s159 s160 s161 s162 s163 s164 s165 s166 s167 s168 s169 s170 s171 s172 s173 s174 s175 s176 s177 s178 s179 s180 s181 s182 s183 s184 s185 s186 s187 s188 s189 s190 s191 s192 s193 s194 s195 s196 s197 s198 s199 s200 s201 s202 s203 s204 s205 s206 s207 s208 s209 s210 s211 s212 s213 s214 s215 s216 s217 s218 s219 s220 s221 s222 s223 s224 s225 s226 s227 s228 s229 s230 s231 s232 s233 s234 s235 s236 s237 s238 s239 s240 s241 s242 s243 s244 s245 s246 s247 s248 s249 s250 s251 s252 s253 s254 s255 s256 s257 s258 s259 s260 s261 s262 s263 s264 s265 s266 s267 s268 s269 s270 s271 s272 s273 s274 s275 s276 s277 s278 s279 s280 s281 s282 s283 s284 s285 s286 s287 s288 s289 s290 s291 s292 s293 s294 s295 s296 s297 s298 s299 s300 s301 s302 s303 s304 s305 s306 s307 s308 s309 s310 s311 s312 s313 s314 s315 s316 s317 s318 s319 s320 s321 s322 s323 s324 s325 s326 s327 s328 s329 s330 s331 s332 s333 s334 s335 s336 s337 s338 s339 s340 s341 s342 s343 s344 s345 s346 s347 s348 s349 s350 s351 s352 s353 s354 s355 s356 s357 s358 s359 s360 s361 s362 s363 s364 s365 s366 s367 s368 s369 s370 s371 s372 s373 s374 s375 s376 s377 s378 s379 s380 s381 s382 s383 s384 s385 s386 s387 s388 s389 s390 s391 s392 : Value} (HQ : Hid (On w0 base wz S wq bm kM0)) (TQ : Hid (SRet br (actC 1) wq)) (hne : bm < br) (hQ : Hid (∀ (c : List PanicEntry) (a : Act) (d : Option Tmp) (v : Value) (w : World), Q' (.panic c) (a.put d v) w → Q' (.panic c) a w))
    (hK' : ∀ (u35 u36 u37 u38 u39 u40 u41 u42 u43 u44 u45 u46 u47 u48 u49 u50 u51 u52 u53 u54 u55 u56 u57 u58 u59 u60 u61 u62 u63 u64 u65 u66 u67 u68 u69 : Value) (W : World), On w0 base wz S W bm kM4 → SRet br (actC 1) W → K' ⟨#[s0, .pointer (some ⟨bm, 0, none⟩), s2, .pointer (some ⟨br, 0, none⟩), s4, s5, s6, s7, s8, s9, s10, s11, s12, s13, s14, s15, s16, s17, s18, s19, s20, s21, s22, s23, s24, s25, s26, s27, s28, s29, s30, s31, s32, s33, s34, u35, u36, u37, u38, u39, u40, u41, u42, u43, u44, u45, u46, u47, u48, u49, u50, u51, u52, u53, u54, u55, u56, u57, u58, u59, u60, u61, u62, u63, u64, u65, u66, u67, u68, u69, .bool false, s71, s72, s73, s74, s75, s76, s77, s78, s79, s80, s81, s82, s83, s84, s85, s86, s87, s88, s89, s90, s91, s92, s93, s94, s95, s96, s97, s98, s99, s100, s101, s102, s103, s104, s105, s106, s107, s108, s109, s110, s111, s112, s113, s114, s115, s116, s117, s118, s119, s120, s121, s122, s123, s124, s125, s126, s127, s128, s129, s130, s131, s132, s133, s134, s135, s136, s137, s138, s139, s140, s141, s142, s143, s144, s145, s146, s147, s148, s149, s150, s151, s152, s153, s154, s155, s156, s157, s158, s159, s160, s161, s162, s163, s164, s165, s166, s167, s168, s169, s170, s171, s172, s173, s174, s175, s176, s177, s178, s179, s180, s181, s182, s183, s184, s185, s186, s187, s188, s189, s190, s191, s192, s193, s194, s195, s196, s197, s198, s199, s200, s201, s202, s203, s204, s205, s206, s207, s208, s209, s210, s211, s212, s213, s214, s215, s216, s217, s218, s219, s220, s221, s222, s223, s224, s225, s226, s227, s228, s229, s230, s231, s232, s233, s234, s235, s236, s237, s238, s239, s240, s241, s242, s243, s244, s245, s246, s247, s248, s249, s250, s251, s252, s253, s254, s255, s256, s257, s258, s259, s260, s261, s262, s263, s264, s265, s266, s267, s268, s269, s270, s271, s272, s273, s274, s275, s276, s277, s278, s279, s280, s281, s282, s283, s284, s285, s286, s287, s288, s289, s290, s291, s292, s293, s294, s295, s296, s297, s298, s299, s300, s301, s302, s303, s304, s305, s306, s307, s308, s309, s310, s311, s312, s313, s314, s315, s316, s317, s318, s319, s320, s321, s322, s323, s324, s325, s326, s327, s328, s329, s330, s331, s332, s333, s334, s335, s336, s337, s338, s339, s340, s341, s342, s343, s344, s345, s346, s347, s348, s349, s350, s351, s352, s353, s354, s355, s356, s357, s358, s359, s360, s361, s362, s363, s364, s365, s366, s367, s368, s369, s370, s371, s372, s373, s374, s375, s376, s377, s378, s379, s380, s381, s382, s383, s384, s385, s386, s387, s388, s389, s390, s391, s392], []⟩ W) :
    Code.wp Try.prog code3 (Exit.then K' Q') ⟨#[s0, .pointer (some ⟨bm, 0, none⟩), s2, .pointer (some ⟨br, 0, none⟩), s4, s5, s6, s7, s8, s9, s10, s11, s12, s13, s14, s15, s16, s17, s18, s19, s20, s21, s22, s23, s24, s25, s26, s27, s28, s29, s30, s31, s32, s33, s34, s35, s36, s37, s38, s39, s40, s41, s42, s43, s44, s45, s46, s47, s48, s49, s50, s51, s52, s53, s54, s55, s56, s57, s58, s59, s60, s61, s62, s63, s64, s65, s66, s67, s68, s69, s70, s71, s72, s73, s74, s75, s76, s77, s78, s79, s80, s81, s82, s83, s84, s85, s86, s87, s88, s89, s90, s91, s92, s93, s94, s95, s96, s97, s98, s99, s100, s101, s102, s103, s104, s105, s106, s107, s108, s109, s110, s111, s112, s113, s114, s115, s116, s117, s118, s119, s120, s121, s122, s123, s124, s125, s126, s127, s128, s129, s130, s131, s132, s133, s134, s135, s136, s137, s138, s139, s140, s141, s142, s143, s144, s145, s146, s147, s148, s149, s150, s151, s152, s153, s154, s155, s156, s157, s158, s159, s160, s161, s162, s163, s164, s165, s166, s167, s168, s169, s170, s171, s172, s173, s174, s175, s176, s177, s178, s179, s180, s181, s182, s183, s184, s185, s186, s187, s188, s189, s190, s191, s192, s193, s194, s195, s196, s197, s198, s199, s200, s201, s202, s203, s204, s205, s206, s207, s208, s209, s210, s211, s212, s213, s214, s215, s216, s217, s218, s219, s220, s221, s222, s223, s224, s225, s226, s227, s228, s229, s230, s231, s232, s233, s234, s235, s236, s237, s238, s239, s240, s241, s242, s243, s244, s245, s246, s247, s248, s249, s250, s251, s252, s253, s254, s255, s256, s257, s258, s259, s260, s261, s262, s263, s264, s265, s266, s267, s268, s269, s270, s271, s272, s273, s274, s275, s276, s277, s278, s279, s280, s281, s282, s283, s284, s285, s286, s287, s288, s289, s290, s291, s292, s293, s294, s295, s296, s297, s298, s299, s300, s301, s302, s303, s304, s305, s306, s307, s308, s309, s310, s311, s312, s313, s314, s315, s316, s317, s318, s319, s320, s321, s322, s323, s324, s325, s326, s327, s328, s329, s330, s331, s332, s333, s334, s335, s336, s337, s338, s339, s340, s341, s342, s343, s344, s345, s346, s347, s348, s349, s350, s351, s352, s353, s354, s355, s356, s357, s358, s359, s360, s361, s362, s363, s364, s365, s366, s367, s368, s369, s370, s371, s372, s373, s374, s375, s376, s377, s378, s379, s380, s381, s382, s383, s384, s385, s386, s387, s388, s389, s390, s391, s392], []⟩ wq := by
  conv => arg 2; whnf
  refine wp_region_K2 [] (SRet br (actC 1)) (fun _ => True) rfl TQ.out trivial (fun _ _ => ?_)
  have hb := (Below.refl wq.heap.size wq).drew
  have H5 := Lib.hid (HQ.out.next hb)
  have T5_0 := Lib.hid (TQ.out.below hb)
  clear hb
  refine wpAnyK_take 0 (v := ?_) rfl (by kernel_rfl) (fun _ _ _ h => hQ.out _ _ _ _ _ h) (.inl ⟨by rfl, ?_⟩) T5_0.out ?_
  rotate_left
  · intro w hS; clear hS; go_simp; with_reducible rfl
  refine wpAnyK_one 1 (by kernel_rfl) rfl (by rfl) (fun K' hK => ?_)
  go_wp2_with fail
  refine (c_in _ 11).mono ?_
  rintro e w6 ⟨rfl, hb⟩
  have H6 := Lib.hid (H5.out.next hb)
  have T6_0 := Lib.hid (T5_0.out.below hb)
  clear hb
  go_wp2_with fail
  refine stillS T6_0.out (fun _ => ?_)
  refine wpAnyK_one 2 (by kernel_rfl) rfl (by rfl) (fun K' hK => ?_)
  go_wp2_with fail
  refine (c_onDo (m' := kM1) (L := kL1) H6.out 11 kD1).mono ?_
  rintro e w7 ⟨ra1, rc1, rfl, hon, hrd, hk⟩
  have H7 := Lib.hid hon
  have hbx := H7.out.mach.lt.1
  have T7_0 := Lib.hid (T6_0.out.did hk (by omega))
  clear hbx
  have R7_0 := Lib.hid hrd
  clear hon hrd hk
  go_wp2_with fail
  refine stillS T7_0.out (fun _ => ?_)
  refine wpAnyK_one 3 (by kernel_rfl) rfl (by rfl) (fun K' hK => ?_)
  go_wp2_with fail
  refine (c_same (la := kL1) (lb := []) R7_0.out (.inl ⟨none, rfl, rfl⟩ : Rd (fun _ => True) _ 6 cT nilS [])).mono ?_
  rintro e w8 ⟨rfl, hb⟩
  have H8 := Lib.hid (H7.out.next hb)
  have T8_0 := Lib.hid (T7_0.out.below hb)
  clear hb
  rw [show decide (kL1 = []) = true from by decide +kernel]
  go_wp2_with fail
  refine stillS T8_0.out (fun _ => ?_)
  refine wpAnyK_take 4 (v := ?_) rfl (by kernel_rfl) (fun _ _ _ h => hQ.out _ _ _ _ _ h) (.inl ⟨by rfl, ?_⟩) T8_0.out ?_
  rotate_left
  · intro w hS; clear hS; go_simp; with_reducible rfl
  refine wpAnyK_take 5 (v := ?_) rfl (by kernel_rfl) (fun _ _ _ h => hQ.out _ _ _ _ _ h) (.inl ⟨by rfl, ?_⟩) T8_0.out ?_
  rotate_left
  · intro w hS; clear hS; go_simp; with_reducible rfl
  refine wpAnyK_take 6 (v := ?_) rfl (by kernel_rfl) (fun _ _ _ h => hQ.out _ _ _ _ _ h) (.inl ⟨by rfl, ?_⟩) T8_0.out ?_
  rotate_left
  · intro w hS; clear hS; go_simp; with_reducible rfl
  refine wpAnyK_take 9 (v := ?_) rfl (by kernel_rfl) (fun _ _ _ h => hQ.out _ _ _ _ _ h) (.inl ⟨by rfl, ?_⟩) T8_0.out ?_
  rotate_left
  · intro w hS; clear hS; go_simp; with_reducible rfl
  refine wpAnyK_one 7 (by kernel_rfl) rfl (by rfl) (fun K' hK => ?_)
  go_wp2_with fail
  refine (c_in _ 1).mono ?_
  rintro e w9 ⟨rfl, hb⟩
  have H9 := Lib.hid (H8.out.next hb)
  have T9_0 := Lib.hid (T8_0.out.below hb)
  clear hb
  go_wp2_with fail
  refine stillS T9_0.out (fun _ => ?_)
  refine wpAnyK_one 8 (by kernel_rfl) rfl (by rfl) (fun K' hK => ?_)
  go_wp2_with fail
  refine (c_onDo (m' := kM2) (L := kL2) H9.out 1 kD2).mono ?_
  rintro e w10 ⟨ra2, rc2, rfl, hon, hrd, hk⟩
  have H10 := Lib.hid hon
  have hbx := H10.out.mach.lt.1
  have T10_0 := Lib.hid (T9_0.out.did hk (by omega))
  clear hbx
  have R10_0 := Lib.hid hrd
  clear hon hrd hk
  go_wp2_with fail
  refine stillS T10_0.out (fun _ => ?_)
  refine wpAnyK_one 10 (by kernel_rfl) rfl (by rfl) (fun K' hK => ?_)
  go_wp2_with fail
  refine (c_armL _ 1 30).mono ?_
  rintro e w11 ⟨rfl, hb⟩
  have H11 := Lib.hid (H10.out.next hb)
  have T11_0 := Lib.hid (T10_0.out.below hb)
  have R11_0 := Lib.hid (R10_0.out.below hb)
  clear hb
  go_wp2_with fail
  refine stillS T11_0.out (fun _ => ?_)
  refine wpAnyK_one 11 (by kernel_rfl) rfl (by rfl) (fun K' hK => ?_)
  go_wp2_with fail
  have hbl := H11.out.mach.lt.2
  have LT12 := Lib.hid (LitAt.new (w := w11) (bX := bm) (L := kL2) rfl (by decide) hbl)
  have hb := (Below.refl w11.heap.size w11).alloc (Nat.le_refl _) (.cells (kL2.flatMap cT).toArray 50)
  have H12 := Lib.hid (H11.out.next hb)
  have T12_0 := Lib.hid (T11_0.out.below hb)
  have R12_0 := Lib.hid (R11_0.out.below hb)
  obtain ⟨w12, hw⟩ : ∃ x, x = w11.alloc (.cells (kL2.flatMap cT).toArray 50) := ⟨_, rfl⟩
  rw [← hw] at LT12 H12 T12_0 R12_0
  simp only [kL2, actK, actA, actC, cT, List.flatMap_cons, List.flatMap_nil, List.append_nil, List.cons_append, List.nil_append] at hw
  rw [← hw]
  clear hb hw hbl
  refine stillS T12_0.out (fun _ => ?_)
  refine wpAnyK_one 12 (by kernel_rfl) rfl (by rfl) (fun K' hK => ?_)
  go_wp2_with fail
  refine (c_same (la := kL2) (lb := kL2) R12_0.out LT12.out.rd).mono ?_
  rintro e w13 ⟨rfl, hb⟩
  have H13 := Lib.hid (H12.out.next hb)
  have T13_0 := Lib.hid (T12_0.out.below hb)
  clear hb LT12
  rw [show decide (kL2 = kL2) = true from by decide +kernel]
  go_wp2_with fail
  refine stillS T13_0.out (fun _ => ?_)
  refine wpAnyK_take 13 (v := ?_) rfl (by kernel_rfl) (fun _ _ _ h => hQ.out _ _ _ _ _ h) (.inl ⟨by rfl, ?_⟩) T13_0.out ?_
  rotate_left
  · intro w hS; clear hS; go_simp; with_reducible rfl
  refine wpAnyK_take 14 (v := ?_) rfl (by kernel_rfl) (fun _ _ _ h => hQ.out _ _ _ _ _ h) (.inl ⟨by rfl, ?_⟩) T13_0.out ?_
  rotate_left
  · intro w hS; clear hS; go_simp; with_reducible rfl
  refine wpAnyK_take 15 (v := ?_) rfl (by kernel_rfl) (fun _ _ _ h => hQ.out _ _ _ _ _ h) (.inl ⟨by rfl, ?_⟩) T13_0.out ?_
  rotate_left
  · intro w hS; clear hS; go_simp; with_reducible rfl
  refine wpAnyK_take 16 (v := ?_) rfl (by kernel_rfl) (fun _ _ _ h => hQ.out _ _ _ _ _ h) (.inl ⟨by rfl, ?_⟩) T13_0.out ?_
  rotate_left
  · intro w hS; clear hS; go_simp; with_reducible rfl
  refine wpAnyK_one 17 (by kernel_rfl) rfl (by rfl) (fun K' hK => ?_)
  go_wp2_with fail
  refine (c_onState H13.out kS3).mono ?_
  rintro e w14 ⟨rfl, rfl⟩
  go_wp2_with fail
  refine stillS T13_0.out (fun _ => ?_)
  refine wpAnyK_take 18 (v := ?_) rfl (by kernel_rfl) (fun _ _ _ h => hQ.out _ _ _ _ _ h) (.inl ⟨by rfl, ?_⟩) T13_0.out ?_
  rotate_left
  · intro w hS; clear hS; go_simp; with_reducible rfl
  refine wpAnyK_take 19 (v := ?_) rfl (by kernel_rfl) (fun _ _ _ h => hQ.out _ _ _ _ _ h) (.inl ⟨by rfl, ?_⟩) T13_0.out ?_
  rotate_left
  · intro w hS; clear hS; go_simp; with_reducible rfl
  refine wpAnyK_take 20 (v := ?_) rfl (by kernel_rfl) (fun _ _ _ h => hQ.out _ _ _ _ _ h) (.inl ⟨by rfl, ?_⟩) T13_0.out ?_
  rotate_left
  · intro w hS; clear hS; go_simp; with_reducible rfl
  refine wpAnyK_take 21 (v := ?_) rfl (by kernel_rfl) (fun _ _ _ h => hQ.out _ _ _ _ _ h) (.inl ⟨by rfl, ?_⟩) T13_0.out ?_
  rotate_left
  · intro w hS; clear hS; go_simp; with_reducible rfl
  refine wpAnyK_take 24 (v := .agg #[.int .i64 7, .int .i64 1, .int .i64 0, .int .u8 0, .int .u8 0, .string ⟨#[]⟩]) rfl (by kernel_rfl) (fun _ _ _ h => hQ.out _ _ _ _ _ h) (.inl ⟨by rfl, fun w hS => ?_⟩) T13_0.out ?_
  · have g0 := hS 0 _ rfl; have g1 := hS 1 _ rfl; have g2 := hS 2 _ rfl; have g3 := hS 3 _ rfl; have g4 := hS 4 _ rfl; have g5 := hS 5 _ rfl; clear hS; simp only [actC] at g0 g1 g2 g3 g4 g5; go_simp
  refine wpAnyK_take 25 (v := ?_) rfl (by kernel_rfl) (fun _ _ _ h => hQ.out _ _ _ _ _ h) (.inl ⟨by rfl, ?_⟩) T13_0.out ?_
  rotate_left
  · intro w hS; clear hS; go_simp; with_reducible rfl
  refine wpAnyK_one 22 (by kernel_rfl) rfl (by rfl) (fun K' hK => ?_)
  go_wp2_with fail
  refine (c_in _ 3).mono ?_
  rintro e w15 ⟨rfl, hb⟩
  have H15 := Lib.hid (H13.out.next hb)
  have T15_0 := Lib.hid (T13_0.out.below hb)
  clear hb
  go_wp2_with fail
  refine stillS T15_0.out (fun _ => ?_)
  refine wpAnyK_one 23 (by kernel_rfl) rfl (by rfl) (fun K' hK => ?_)
  go_wp2_with fail
  refine (c_onDo (m' := kM4) (L := kL4) H15.out 3 kD4).mono ?_
  rintro e w16 ⟨ra4, rc4, rfl, hon, hrd, hk⟩
  have H16 := Lib.hid hon
  have hbx := H16.out.mach.lt.1
  have T16_0 := Lib.hid (T15_0.out.did hk (by omega))
  clear hbx
  have R16_0 := Lib.hid hrd
  clear hon hrd hk
  go_wp2_with fail
  refine stillS T16_0.out (fun _ => ?_)
  refine wpAnyK_one 26 (by kernel_rfl) rfl (by rfl) (fun K' hK => ?_)
  go_wp2_with fail
  refine (c_armL _ 2 240).mono ?_
  rintro e w17 ⟨rfl, hb⟩
  have H17 := Lib.hid (H16.out.next hb)
  have T17_0 := Lib.hid (T16_0.out.below hb)
  have R17_0 := Lib.hid (R16_0.out.below hb)
  clear hb
  go_wp2_with fail
  refine stillS T17_0.out (fun _ => ?_)
  refine wpAnyK_one 27 (by kernel_rfl) rfl (by rfl) (fun K' hK => ?_)
  go_wp2_with fail
  have hbl := H17.out.mach.lt.2
  have LT18 := Lib.hid (LitAt.new (w := w17) (bX := bm) (L := kL4) rfl (by decide) hbl)
  have hb := (Below.refl w17.heap.size w17).alloc (Nat.le_refl _) (.cells (kL4.flatMap cT).toArray 50)
  have H18 := Lib.hid (H17.out.next hb)
  have T18_0 := Lib.hid (T17_0.out.below hb)
  have R18_0 := Lib.hid (R17_0.out.below hb)
  obtain ⟨w18, hw⟩ : ∃ x, x = w17.alloc (.cells (kL4.flatMap cT).toArray 50) := ⟨_, rfl⟩
  rw [← hw] at LT18 H18 T18_0 R18_0
  simp only [kL4, actK, actA, actC, cT, List.flatMap_cons, List.flatMap_nil, List.append_nil, List.cons_append, List.nil_append] at hw
  rw [← hw]
  clear hb hw hbl
  refine stillS T18_0.out (fun _ => ?_)
  refine wpAnyK_one 28 (by kernel_rfl) rfl (by rfl) (fun K' hK => ?_)
  go_wp2_with fail
  refine (c_same (la := kL4) (lb := kL4) R18_0.out LT18.out.rd).mono ?_
  rintro e w19 ⟨rfl, hb⟩
  have H19 := Lib.hid (H18.out.next hb)
  have T19_0 := Lib.hid (T18_0.out.below hb)
  clear hb LT18
  rw [show decide (kL4 = kL4) = true from by decide +kernel]
  go_wp2_with fail
  refine stillS T19_0.out (fun _ => ?_)
  refine wpAnyK_take 29 (v := ?_) rfl (by kernel_rfl) (fun _ _ _ h => hQ.out _ _ _ _ _ h) (.inl ⟨by rfl, ?_⟩) T19_0.out ?_
  rotate_left
  · intro w hS; clear hS; go_simp; with_reducible rfl
  refine wpAnyK_take 30 (v := ?_) rfl (by kernel_rfl) (fun _ _ _ h => hQ.out _ _ _ _ _ h) (.inl ⟨by rfl, ?_⟩) T19_0.out ?_
  rotate_left
  · intro w hS; clear hS; go_simp; with_reducible rfl
  refine wpAnyK_take 31 (v := ?_) rfl (by kernel_rfl) (fun _ _ _ h => hQ.out _ _ _ _ _ h) (.inl ⟨by rfl, ?_⟩) T19_0.out ?_
  rotate_left
  · intro w hS; clear hS; go_simp; with_reducible rfl
  refine wpAnyK_take 32 (v := ?_) rfl (by kernel_rfl) (fun _ _ _ h => hQ.out _ _ _ _ _ h) (.inl ⟨by rfl, ?_⟩) T19_0.out ?_
  rotate_left
  · intro w hS; clear hS; go_simp; with_reducible rfl
  refine wpAnyK_one 33 (by kernel_rfl) rfl (by rfl) (fun K' hK => ?_)
  go_wp2_with fail
  refine (c_onState H19.out kS5).mono ?_
  rintro e w20 ⟨rfl, rfl⟩
  go_wp2_with fail
  refine stillS T19_0.out (fun _ => ?_)
  refine wpAnyK_take 34 (v := ?_) rfl (by kernel_rfl) (fun _ _ _ h => hQ.out _ _ _ _ _ h) (.inl ⟨by rfl, ?_⟩) T19_0.out ?_
  rotate_left
  · intro w hS; clear hS; go_simp; with_reducible rfl
  refine wpAnyK_take 35 (v := ?_) rfl (by kernel_rfl) (fun _ _ _ h => hQ.out _ _ _ _ _ h) (.inl ⟨by rfl, ?_⟩) T19_0.out ?_
  rotate_left
  · intro w hS; clear hS; go_simp; with_reducible rfl
  refine wpAnyK_done (by kernel_rfl) ?_
  go_simp
  exact hK' _ _ _ _ _ _ _ _ _ _ _ _ _ _ _ _ _ _ _ _ _ _ _ _ _ _ _ _ _ _ _ _ _ _ _ _ H19.out T19_0.out

end Go.Proofs.Ytnbopmpbgopafaa
