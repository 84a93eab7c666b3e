/- heraldlaw20.FsmKnown: a region. -/
import Derived.Test.YtnbopmpbgopafaaKnownD
namespace Go.Proofs.Ytnbopmpbgopafaa
open Go.RowKit
variable {A B : Nat → Prop}


noncomputable def code12 : Code := ((Try.f6.body.bind (regionOf 12)).getD .skip)
set_option maxRecDepth 1000000 in
set_option maxHeartbeats 20000000 in
theorem seg12 {K' : Act → World → Prop} {Q' : Exit → Act → World → Prop} {w0 wz wq : World} {base bm br : Nat} {S : Nat → Prop} {s0 s2 s4 s5 s6 s7 s8 s9 s10 s11 s12 s13 s14 s15 s16 s17 s18 s19 s20 s21 s22 s23 s24 s25 s26 s27 s28 s29 s30 s31 s32 s33 s34 s35 s36 s37 s38 s39 s40 s41 s42 s43 s44 s45 s46 s47 s48 s49 s50 s51 s52 s53 s54 s55 s56 s57 s58 s59 s60 s61 s62 s63 s64 s65 s66 s67 s68 s69 s70 s71 s72 s73 s74 s75 s76 s77 s78 s79 s80 s81 s82 s83 s84 s85 s86 s87 s88 s89 s90 s91 s92 s93 s94 s95 s96 s97 s98 s99 s100 s101 s102 s103 s104 s105 s106 s107 s108 s109 s110 s111 s112 s113 s114 s115 s116 s117 s118 s119 s120 s121 s122 s123 s124 s125 s126 s127 s128 s129 s130 s131 s132 s133 s134 s135 s136 s137 s138 s139 s140 s141 s142 s143 s144 s145 s146 s147 s148 s149 s150 s151 s152 s153 s154 s155 s156 s157 s158 s159 s160 s161 s162 s163 s164 s165 s166 s167 s168 s169 s170 s171 s172 s173 s174 s175 s176 s177 s178 s179 s180 s181 s182 s183 s184 s185 s186 s187 s188 s189 s190 s191 s192 s193 s194 s195 s196 s197 s198 s199 s200 s201 s202 s203 s204 s205 s206 s207 s208 s209 s210 s211 s212 s213 s214 s215 s216 s217 s218 s219 s220 s221 s222 s223 s224 s225 s226 s227 s228 s229 s230 s231 s232 s233 s234 s235 s236 s237 s238 s239 s240 s241 s242 s243 s244 s245 s246 s247 s248 s249 s250 s251 s252 s253 s254 s255 s256 s257 s258 s259 s260 s261 s262 s263 s264 s265 s266 s267 s268 s269 s270 s271 s272 s273 s274 s275 s276 s277 s278 s279 s280 s281 s282 s283 s284 s285 s286 s287 s288 s289 s290 s291 s292 s293 s294 s295 s296 s297 s298 s299 s300 s301 s302 s303 s304 s305 s306 s307 s308 s309 s310 s311 s312 s313 s314 s315 s316 s317 s318 s319 s320 s321 s322 s323 s324 s325 s326 s327 s328 s329 s330 s331 s332 s333 s334 s335 s336 s337 s338 s339 s340 s341 s342 s343 s344 s345 s346 s347 s348 s349 s350 s351 s352 s353 s354 s355 s356 s357 s358 s359 s360 s361 s362 s363 s364 s365 s366 s367 s368 s369 s370 s371 s372 s373 s374 s375 s376 s377 s378 s379 s380 s381 s382 s383 s384 s385 s386 s387 s388 s389 s390 s391 s392 : Value} (HQ : Hid (On w0 base wz S wq bm kM12)) (TQ : Hid (SRet br (actC 1) wq)) (hne : bm < br) (hQ : Hid (∀ (c : List PanicEntry) (a : Act) (d : Option Tmp) (v : Value) (w : World), Q' (.panic c) (a.put d v) w → Q' (.panic c) a w))
    (hK' : ∀ (u142 u143 u144 u145 u146 u147 u148 u149 u150 u151 u152 u153 u154 u155 u156 u157 u158 u159 u160 u161 u162 u163 u164 u165 u166 u167 u168 u169 u170 u171 u172 u173 u174 u175 u176 u177 u178 u179 u180 u181 u182 u183 u184 : Value) (W : World), On w0 base wz S W bm kMfin → SRet br (actC 1) W → K' ⟨#[s0, .pointer (some ⟨bm, 0, none⟩), s2, .pointer (some ⟨br, 0, none⟩), s4, s5, s6, s7, s8, s9, s10, s11, s12, s13, s14, s15, s16, s17, s18, s19, s20, s21, s22, s23, s24, s25, s26, s27, s28, s29, s30, s31, s32, s33, s34, s35, s36, s37, s38, s39, s40, s41, s42, s43, s44, s45, s46, s47, s48, s49, s50, s51, s52, s53, s54, s55, s56, s57, s58, s59, s60, s61, s62, s63, s64, s65, s66, s67, s68, s69, s70, s71, s72, s73, s74, s75, s76, s77, s78, s79, s80, s81, s82, s83, s84, s85, s86, s87, s88, s89, s90, s91, s92, s93, s94, s95, s96, s97, s98, s99, s100, s101, s102, s103, s104, s105, s106, s107, s108, s109, s110, s111, s112, s113, s114, s115, s116, s117, s118, s119, s120, s121, s122, s123, s124, s125, s126, s127, s128, s129, s130, s131, s132, s133, s134, s135, s136, s137, s138, s139, s140, s141, u142, u143, u144, u145, u146, u147, u148, u149, u150, u151, u152, u153, u154, u155, u156, u157, u158, u159, u160, u161, u162, u163, u164, u165, u166, u167, u168, u169, u170, u171, u172, u173, u174, u175, u176, u177, u178, u179, u180, u181, u182, u183, u184, .bool false, s186, s187, s188, s189, s190, s191, s192, s193, s194, s195, s196, s197, s198, s199, s200, s201, s202, s203, s204, s205, s206, s207, s208, s209, s210, s211, s212, s213, s214, s215, s216, s217, s218, s219, s220, s221, s222, s223, s224, s225, s226, s227, s228, s229, s230, s231, s232, s233, s234, s235, s236, s237, s238, s239, s240, s241, s242, s243, s244, s245, s246, s247, s248, s249, s250, s251, s252, s253, s254, s255, s256, s257, s258, s259, s260, s261, s262, s263, s264, s265, s266, s267, s268, s269, s270, s271, s272, s273, s274, s275, s276, s277, s278, s279, s280, s281, s282, s283, s284, s285, s286, s287, s288, s289, s290, s291, s292, s293, s294, s295, s296, s297, s298, s299, s300, s301, s302, s303, s304, s305, s306, s307, s308, s309, s310, s311, s312, s313, s314, s315, s316, s317, s318, s319, s320, s321, s322, s323, s324, s325, s326, s327, s328, s329, s330, s331, s332, s333, s334, s335, s336, s337, s338, s339, s340, s341, s342, s343, s344, s345, s346, s347, s348, s349, s350, s351, s352, s353, s354, s355, s356, s357, s358, s359, s360, s361, s362, s363, s364, s365, s366, s367, s368, s369, s370, s371, s372, s373, s374, s375, s376, s377, s378, s379, s380, s381, s382, s383, s384, s385, s386, s387, s388, s389, s390, s391, s392], []⟩ W) :
    Code.wp Try.prog code12 (Exit.then K' Q') ⟨#[s0, .pointer (some ⟨bm, 0, none⟩), s2, .pointer (some ⟨br, 0, none⟩), s4, s5, s6, s7, s8, s9, s10, s11, s12, s13, s14, s15, s16, s17, s18, s19, s20, s21, s22, s23, s24, s25, s26, s27, s28, s29, s30, s31, s32, s33, s34, s35, s36, s37, s38, s39, s40, s41, s42, s43, s44, s45, s46, s47, s48, s49, s50, s51, s52, s53, s54, s55, s56, s57, s58, s59, s60, s61, s62, s63, s64, s65, s66, s67, s68, s69, s70, s71, s72, s73, s74, s75, s76, s77, s78, s79, s80, s81, s82, s83, s84, s85, s86, s87, s88, s89, s90, s91, s92, s93, s94, s95, s96, s97, s98, s99, s100, s101, s102, s103, s104, s105, s106, s107, s108, s109, s110, s111, s112, s113, s114, s115, s116, s117, s118, s119, s120, s121, s122, s123, s124, s125, s126, s127, s128, s129, s130, s131, s132, s133, s134, s135, s136, s137, s138, s139, s140, s141, s142, s143, s144, s145, s146, s147, s148, s149, s150, s151, s152, s153, s154, s155, s156, s157, s158, s159, s160, s161, s162, s163, s164, s165, s166, s167, s168, s169, s170, s171, s172, s173, s174, s175, s176, s177, s178, s179, s180, s181, s182, s183, s184, s185, s186, s187, s188, s189, s190, s191, s192, s193, s194, s195, s196, s197, s198, s199, s200, s201, s202, s203, s204, s205, s206, s207, s208, s209, s210, s211, s212, s213, s214, s215, s216, s217, s218, s219, s220, s221, s222, s223, s224, s225, s226, s227, s228, s229, s230, s231, s232, s233, s234, s235, s236, s237, s238, s239, s240, s241, s242, s243, s244, s245, s246, s247, s248, s249, s250, s251, s252, s253, s254, s255, s256, s257, s258, s259, s260, s261, s262, s263, s264, s265, s266, s267, s268, s269, s270, s271, s272, s273, s274, s275, s276, s277, s278, s279, s280, s281, s282, s283, s284, s285, s286, s287, s288, s289, s290, s291, s292, s293, s294, s295, s296, s297, s298, s299, s300, s301, s302, s303, s304, s305, s306, s307, s308, s309, s310, s311, s312, s313, s314, s315, s316, s317, s318, s319, s320, s321, s322, s323, s324, s325, s326, s327, s328, s329, s330, s331, s332, s333, s334, s335, s336, s337, s338, s339, s340, s341, s342, s343, s344, s345, s346, s347, s348, s349, s350, s351, s352, s353, s354, s355, s356, s357, s358, s359, s360, s361, s362, s363, s364, s365, s366, s367, s368, s369, s370, s371, s372, s373, s374, s375, s376, s377, s378, s379, s380, s381, s382, s383, s384, s385, s386, s387, s388, s389, s390, s391, s392], []⟩ wq := by
  conv => arg 2; whnf
  refine wp_region_K2 [] (SRet br (actC 1)) (fun _ => True) rfl TQ.out trivial (fun _ _ => ?_)
  have hb := (Below.refl wq.heap.size wq).drew
  have H45 := Lib.hid (HQ.out.next hb)
  have T45_0 := Lib.hid (TQ.out.below hb)
  clear hb
  refine wpAnyK_take 0 (v := ?_) rfl (by kernel_rfl) (fun _ _ _ h => hQ.out _ _ _ _ _ h) (.inl ⟨by rfl, ?_⟩) T45_0.out ?_
  rotate_left
  · intro w hS; clear hS; go_simp; with_reducible rfl
  refine wpAnyK_take 3 (v := ?_) rfl (by kernel_rfl) (fun _ _ _ h => hQ.out _ _ _ _ _ h) (.inl ⟨by rfl, ?_⟩) T45_0.out ?_
  rotate_left
  · intro w hS; clear hS; go_simp; with_reducible rfl
  refine wpAnyK_one 1 (by kernel_rfl) rfl (by rfl) (fun K' hK => ?_)
  go_wp2_with fail
  refine (c_in _ 11).mono ?_
  rintro e w46 ⟨rfl, hb⟩
  have H46 := Lib.hid (H45.out.next hb)
  have T46_0 := Lib.hid (T45_0.out.below hb)
  clear hb
  go_wp2_with fail
  refine stillS T46_0.out (fun _ => ?_)
  refine wpAnyK_one 2 (by kernel_rfl) rfl (by rfl) (fun K' hK => ?_)
  go_wp2_with fail
  refine (c_onDo (m' := kM13) (L := kL13) H46.out 11 kD13).mono ?_
  rintro e w47 ⟨ra13, rc13, rfl, hon, hrd, hk⟩
  have H47 := Lib.hid hon
  have hbx := H47.out.mach.lt.1
  have T47_0 := Lib.hid (T46_0.out.did hk (by omega))
  clear hbx
  have R47_0 := Lib.hid hrd
  clear hon hrd hk
  go_wp2_with fail
  refine stillS T47_0.out (fun _ => ?_)
  refine wpAnyK_one 4 (by kernel_rfl) rfl (by rfl) (fun K' hK => ?_)
  go_wp2_with fail
  refine (c_armL _ 1 30).mono ?_
  rintro e w48 ⟨rfl, hb⟩
  have H48 := Lib.hid (H47.out.next hb)
  have T48_0 := Lib.hid (T47_0.out.below hb)
  have R48_0 := Lib.hid (R47_0.out.below hb)
  clear hb
  go_wp2_with fail
  refine stillS T48_0.out (fun _ => ?_)
  refine wpAnyK_one 5 (by kernel_rfl) rfl (by rfl) (fun K' hK => ?_)
  go_wp2_with fail
  have hbl := H48.out.mach.lt.2
  have LT49 := Lib.hid (LitAt.new (w := w48) (bX := bm) (L := kL13) rfl (by decide) hbl)
  have hb := (Below.refl w48.heap.size w48).alloc (Nat.le_refl _) (.cells (kL13.flatMap cT).toArray 50)
  have H49 := Lib.hid (H48.out.next hb)
  have T49_0 := Lib.hid (T48_0.out.below hb)
  have R49_0 := Lib.hid (R48_0.out.below hb)
  obtain ⟨w49, hw⟩ : ∃ x, x = w48.alloc (.cells (kL13.flatMap cT).toArray 50) := ⟨_, rfl⟩
  rw [← hw] at LT49 H49 T49_0 R49_0
  simp only [kL13, actK, actA, cT, List.flatMap_cons, List.flatMap_nil, List.append_nil, List.cons_append, List.nil_append] at hw
  rw [← hw]
  clear hb hw hbl
  refine stillS T49_0.out (fun _ => ?_)
  refine wpAnyK_one 6 (by kernel_rfl) rfl (by rfl) (fun K' hK => ?_)
  go_wp2_with fail
  refine (c_same (la := kL13) (lb := kL13) R49_0.out LT49.out.rd).mono ?_
  rintro e w50 ⟨rfl, hb⟩
  have H50 := Lib.hid (H49.out.next hb)
  have T50_0 := Lib.hid (T49_0.out.below hb)
  clear hb LT49
  rw [show decide (kL13 = kL13) = true from by decide +kernel]
  go_wp2_with fail
  refine stillS T50_0.out (fun _ => ?_)
  refine wpAnyK_take 7 (v := ?_) rfl (by kernel_rfl) (fun _ _ _ h => hQ.out _ _ _ _ _ h) (.inl ⟨by rfl, ?_⟩) T50_0.out ?_
  rotate_left
  · intro w hS; clear hS; go_simp; with_reducible rfl
  refine wpAnyK_take 8 (v := ?_) rfl (by kernel_rfl) (fun _ _ _ h => hQ.out _ _ _ _ _ h) (.inl ⟨by rfl, ?_⟩) T50_0.out ?_
  rotate_left
  · intro w hS; clear hS; go_simp; with_reducible rfl
  refine wpAnyK_take 9 (v := ?_) rfl (by kernel_rfl) (fun _ _ _ h => hQ.out _ _ _ _ _ h) (.inl ⟨by rfl, ?_⟩) T50_0.out ?_
  rotate_left
  · intro w hS; clear hS; go_simp; with_reducible rfl
  refine wpAnyK_one 10 (by kernel_rfl) rfl (by rfl) (fun K' hK => ?_)
  go_wp2_with fail
  refine (c_in _ 4).mono ?_
  rintro e w51 ⟨rfl, hb⟩
  have H51 := Lib.hid (H50.out.next hb)
  have T51_0 := Lib.hid (T50_0.out.below hb)
  clear hb
  go_wp2_with fail
  refine stillS T51_0.out (fun _ => ?_)
  refine wpAnyK_one 11 (by kernel_rfl) rfl (by rfl) (fun K' hK => ?_)
  go_wp2_with fail
  refine (c_onDo (m' := kM14) (L := kL14) H51.out 4 kD14).mono ?_
  rintro e w52 ⟨ra14, rc14, rfl, hon, hrd, hk⟩
  have H52 := Lib.hid hon
  have hbx := H52.out.mach.lt.1
  have T52_0 := Lib.hid (T51_0.out.did hk (by omega))
  clear hbx
  have R52_0 := Lib.hid hrd
  clear hon hrd hk
  go_wp2_with fail
  refine stillS T52_0.out (fun _ => ?_)
  refine wpAnyK_one 12 (by kernel_rfl) rfl (by rfl) (fun K' hK => ?_)
  go_wp2_with fail
  refine (c_armL _ 1 30).mono ?_
  rintro e w53 ⟨rfl, hb⟩
  have H53 := Lib.hid (H52.out.next hb)
  have T53_0 := Lib.hid (T52_0.out.below hb)
  have R53_0 := Lib.hid (R52_0.out.below hb)
  clear hb
  go_wp2_with fail
  refine stillS T53_0.out (fun _ => ?_)
  refine wpAnyK_one 13 (by kernel_rfl) rfl (by rfl) (fun K' hK => ?_)
  go_wp2_with fail
  have hbl := H53.out.mach.lt.2
  have LT54 := Lib.hid (LitAt.new (w := w53) (bX := bm) (L := kL14) rfl (by decide) hbl)
  have hb := (Below.refl w53.heap.size w53).alloc (Nat.le_refl _) (.cells (kL14.flatMap cT).toArray 50)
  have H54 := Lib.hid (H53.out.next hb)
  have T54_0 := Lib.hid (T53_0.out.below hb)
  have R54_0 := Lib.hid (R53_0.out.below hb)
  obtain ⟨w54, hw⟩ : ∃ x, x = w53.alloc (.cells (kL14.flatMap cT).toArray 50) := ⟨_, rfl⟩
  rw [← hw] at LT54 H54 T54_0 R54_0
  simp only [kL14, actA, cT, List.flatMap_cons, List.flatMap_nil, List.append_nil] at hw
  rw [← hw]
  clear hb hw hbl
  refine stillS T54_0.out (fun _ => ?_)
  refine wpAnyK_one 14 (by kernel_rfl) rfl (by rfl) (fun K' hK => ?_)
  go_wp2_with fail
  refine (c_same (la := kL14) (lb := kL14) R54_0.out LT54.out.rd).mono ?_
  rintro e w55 ⟨rfl, hb⟩
  have H55 := Lib.hid (H54.out.next hb)
  have T55_0 := Lib.hid (T54_0.out.below hb)
  clear hb LT54
  rw [show decide (kL14 = kL14) = true from by decide +kernel]
  go_wp2_with fail
  refine stillS T55_0.out (fun _ => ?_)
  refine wpAnyK_take 15 (v := ?_) rfl (by kernel_rfl) (fun _ _ _ h => hQ.out _ _ _ _ _ h) (.inl ⟨by rfl, ?_⟩) T55_0.out ?_
  rotate_left
  · intro w hS; clear hS; go_simp; with_reducible rfl
  refine wpAnyK_take 16 (v := ?_) rfl (by kernel_rfl) (fun _ _ _ h => hQ.out _ _ _ _ _ h) (.inl ⟨by rfl, ?_⟩) T55_0.out ?_
  rotate_left
  · intro w hS; clear hS; go_simp; with_reducible rfl
  refine wpAnyK_take 17 (v := ?_) rfl (by kernel_rfl) (fun _ _ _ h => hQ.out _ _ _ _ _ h) (.inl ⟨by rfl, ?_⟩) T55_0.out ?_
  rotate_left
  · intro w hS; clear hS; go_simp; with_reducible rfl
  refine wpAnyK_take 18 (v := ?_) rfl (by kernel_rfl) (fun _ _ _ h => hQ.out _ _ _ _ _ h) (.inl ⟨by rfl, ?_⟩) T55_0.out ?_
  rotate_left
  · intro w hS; clear hS; go_simp; with_reducible rfl
  refine wpAnyK_one 19 (by kernel_rfl) rfl (by rfl) (fun K' hK => ?_)
  go_wp2_with fail
  refine (c_onState H55.out kS15).mono ?_
  rintro e w56 ⟨rfl, rfl⟩
  go_wp2_with fail
  refine stillS T55_0.out (fun _ => ?_)
  refine wpAnyK_take 20 (v := ?_) rfl (by kernel_rfl) (fun _ _ _ h => hQ.out _ _ _ _ _ h) (.inl ⟨by rfl, ?_⟩) T55_0.out ?_
  rotate_left
  · intro w hS; clear hS; go_simp; with_reducible rfl
  refine wpAnyK_take 21 (v := ?_) rfl (by kernel_rfl) (fun _ _ _ h => hQ.out _ _ _ _ _ h) (.inl ⟨by rfl, ?_⟩) T55_0.out ?_
  rotate_left
  · intro w hS; clear hS; go_simp; with_reducible rfl
  refine wpAnyK_take 22 (v := ?_) rfl (by kernel_rfl) (fun _ _ _ h => hQ.out _ _ _ _ _ h) (.inl ⟨by rfl, ?_⟩) T55_0.out ?_
  rotate_left
  · intro w hS; clear hS; go_simp; with_reducible rfl
  refine wpAnyK_take 23 (v := ?_) rfl (by kernel_rfl) (fun _ _ _ h => hQ.out _ _ _ _ _ h) (.inl ⟨by rfl, ?_⟩) T55_0.out ?_
  rotate_left
  · intro w hS; clear hS; go_simp; with_reducible rfl
  refine wpAnyK_take 26 (v := .agg #[.int .i64 7, .int .i64 1, .int .i64 0, .int .u8 0, .int .u8 0, .string ⟨#[]⟩]) rfl (by kernel_rfl) (fun _ _ _ h => hQ.out _ _ _ _ _ h) (.inl ⟨by rfl, fun w hS => ?_⟩) T55_0.out ?_
  · have g0 := hS 0 _ rfl; have g1 := hS 1 _ rfl; have g2 := hS 2 _ rfl; have g3 := hS 3 _ rfl; have g4 := hS 4 _ rfl; have g5 := hS 5 _ rfl; clear hS; simp only [actC] at g0 g1 g2 g3 g4 g5; go_simp
  refine wpAnyK_take 27 (v := ?_) rfl (by kernel_rfl) (fun _ _ _ h => hQ.out _ _ _ _ _ h) (.inl ⟨by rfl, ?_⟩) T55_0.out ?_
  rotate_left
  · intro w hS; clear hS; go_simp; with_reducible rfl
  refine wpAnyK_two 24 28 (by kernel_rfl) ?_ ?_
  · skip
    refine wpOp_wanted rfl (by rfl) (fun K' hK => ?_)
    go_wp2_with fail
    refine (c_in _ 2).mono ?_
    rintro e w57 ⟨rfl, hb⟩
    have H57 := Lib.hid (H55.out.next hb)
    have T57_0 := Lib.hid (T55_0.out.below hb)
    clear hb
    go_wp2_with fail
    refine stillS T57_0.out (fun _ => ?_)
    refine wpAnyK_two 25 28 (by kernel_rfl) ?_ ?_
    · skip
      refine wpOp_wanted rfl (by rfl) (fun K' hK => ?_)
      go_wp2_with fail
      refine (c_onDo (m' := kM16) (L := kL16) H57.out 2 kD16).mono ?_
      rintro e w58 ⟨raw58, rcw58, rfl, hon, hrd, hk⟩
      have H58 := Lib.hid hon
      have hbx := H58.out.mach.lt.1
      have T58_0 := Lib.hid (T57_0.out.did hk (by omega))
      clear hbx
      have R58_0 := Lib.hid hrd
      clear hon hrd hk
      go_wp2_with fail
      refine stillS T58_0.out (fun _ => ?_)
      refine wpAnyK_one 28 (by kernel_rfl) rfl (by rfl) (fun K' hK => ?_)
      go_wp2_with fail
      have hbl := H58.out.mach.lt.2
      have LT59 := Lib.hid (LitAt.new (w := w58) (bX := bm) (L := kL16) rfl (by decide) hbl)
      have hb := (Below.refl w58.heap.size w58).alloc (Nat.le_refl _) (.cells (kL16.flatMap cT).toArray 50)
      have H59 := Lib.hid (H58.out.next hb)
      have T59_0 := Lib.hid (T58_0.out.below hb)
      have R59_0 := Lib.hid (R58_0.out.below hb)
      obtain ⟨w59, hw⟩ : ∃ x, x = w58.alloc (.cells (kL16.flatMap cT).toArray 50) := ⟨_, rfl⟩
      rw [← hw] at LT59 H59 T59_0 R59_0
      simp only [kL16, actK, actC, cT, List.flatMap_cons, List.flatMap_nil, List.append_nil, List.cons_append, List.nil_append] at hw
      rw [← hw]
      clear hb hw hbl
      refine stillS T59_0.out (fun _ => ?_)
      refine wpAnyK_one 29 (by kernel_rfl) rfl (by rfl) (fun K' hK => ?_)
      go_wp2_with fail
      refine (c_same (la := kL16) (lb := kL16) R59_0.out LT59.out.rd).mono ?_
      rintro e w60 ⟨rfl, hb⟩
      have H60 := Lib.hid (H59.out.next hb)
      have T60_0 := Lib.hid (T59_0.out.below hb)
      clear hb LT59
      rw [show decide (kL16 = kL16) = true from by decide +kernel]
      go_wp2_with fail
      refine stillS T60_0.out (fun _ => ?_)
      refine wpAnyK_take 30 (v := ?_) rfl (by kernel_rfl) (fun _ _ _ h => hQ.out _ _ _ _ _ h) (.inl ⟨by rfl, ?_⟩) T60_0.out ?_
      rotate_left
      · intro w hS; clear hS; go_simp; with_reducible rfl
      refine wpAnyK_take 31 (v := ?_) rfl (by kernel_rfl) (fun _ _ _ h => hQ.out _ _ _ _ _ h) (.inl ⟨by rfl, ?_⟩) T60_0.out ?_
      rotate_left
      · intro w hS; clear hS; go_simp; with_reducible rfl
      refine wpAnyK_take 32 (v := ?_) rfl (by kernel_rfl) (fun _ _ _ h => hQ.out _ _ _ _ _ h) (.inl ⟨by rfl, ?_⟩) T60_0.out ?_
      rotate_left
      · intro w hS; clear hS; go_simp; with_reducible rfl
      refine wpAnyK_take 33 (v := ?_) rfl (by kernel_rfl) (fun _ _ _ h => hQ.out _ _ _ _ _ h) (.inl ⟨by rfl, ?_⟩) T60_0.out ?_
      rotate_left
      · intro w hS; clear hS; go_simp; with_reducible rfl
      refine wpAnyK_one 34 (by kernel_rfl) rfl (by rfl) (fun K' hK => ?_)
      go_wp2_with fail
      refine (c_in _ 11).mono ?_
      rintro e w61 ⟨rfl, hb⟩
      have H61 := Lib.hid (H60.out.next hb)
      have T61_0 := Lib.hid (T60_0.out.below hb)
      clear hb
      go_wp2_with fail
      refine stillS T61_0.out (fun _ => ?_)
      refine wpAnyK_one 35 (by kernel_rfl) rfl (by rfl) (fun K' hK => ?_)
      go_wp2_with fail
      refine (c_onDo (m' := kM18) (L := kL18) H61.out 11 kD18).mono ?_
      rintro e w62 ⟨raw62, rcw62, rfl, hon, hrd, hk⟩
      have H62 := Lib.hid hon
      have hbx := H62.out.mach.lt.1
      have T62_0 := Lib.hid (T61_0.out.did hk (by omega))
      clear hbx
      have R62_0 := Lib.hid hrd
      clear hon hrd hk
      go_wp2_with fail
      refine stillS T62_0.out (fun _ => ?_)
      refine wpAnyK_one 36 (by kernel_rfl) rfl (by rfl) (fun K' hK => ?_)
      go_wp2_with fail
      refine (c_same (la := kL18) (lb := []) R62_0.out (.inl ⟨none, rfl, rfl⟩ : Rd (fun _ => True) _ 6 cT nilS [])).mono ?_
      rintro e w63 ⟨rfl, hb⟩
      have H63 := Lib.hid (H62.out.next hb)
      have T63_0 := Lib.hid (T62_0.out.below hb)
      clear hb
      rw [show decide (kL18 = []) = true from by decide +kernel]
      go_wp2_with fail
      refine stillS T63_0.out (fun _ => ?_)
      refine wpAnyK_take 37 (v := ?_) rfl (by kernel_rfl) (fun _ _ _ h => hQ.out _ _ _ _ _ h) (.inl ⟨by rfl, ?_⟩) T63_0.out ?_
      rotate_left
      · intro w hS; clear hS; go_simp; with_reducible rfl
      refine wpAnyK_take 38 (v := ?_) rfl (by kernel_rfl) (fun _ _ _ h => hQ.out _ _ _ _ _ h) (.inl ⟨by rfl, ?_⟩) T63_0.out ?_
      rotate_left
      · intro w hS; clear hS; go_simp; with_reducible rfl
      refine wpAnyK_take 39 (v := ?_) rfl (by kernel_rfl) (fun _ _ _ h => hQ.out _ _ _ _ _ h) (.inl ⟨by rfl, ?_⟩) T63_0.out ?_
      rotate_left
      · intro w hS; clear hS; go_simp; with_reducible rfl
      refine wpAnyK_take 40 (v := ?_) rfl (by kernel_rfl) (fun _ _ _ h => hQ.out _ _ _ _ _ h) (.inl ⟨by rfl, ?_⟩) T63_0.out ?_
      rotate_left
      · intro w hS; clear hS; go_simp; with_reducible rfl
      refine wpAnyK_one 41 (by kernel_rfl) rfl (by rfl) (fun K' hK => ?_)
      go_wp2_with fail
      refine (c_onState H63.out kS19).mono ?_
      rintro e w64 ⟨rfl, rfl⟩
      go_wp2_with fail
      refine stillS T63_0.out (fun _ => ?_)
      refine wpAnyK_take 42 (v := ?_) rfl (by kernel_rfl) (fun _ _ _ h => hQ.out _ _ _ _ _ h) (.inl ⟨by rfl, ?_⟩) T63_0.out ?_
      rotate_left
      · intro w hS; clear hS; go_simp; with_reducible rfl
      refine wpAnyK_take 43 (v := ?_) rfl (by kernel_rfl) (fun _ _ _ h => hQ.out _ _ _ _ _ h) (.inl ⟨by rfl, ?_⟩) T63_0.out ?_
      rotate_left
      · intro w hS; clear hS; go_simp; with_reducible rfl
      refine wpAnyK_done (by kernel_rfl) ?_
      go_simp
      exact hK' _ _ _ _ _ _ _ _ _ _ _ _ _ _ _ _ _ _ _ _ _ _ _ _ _ _ _ _ _ _ _ _ _ _ _ _ _ _ _ _ _ _ _ _ H63.out T63_0.out
    · skip
      refine wpOp_wanted rfl (by rfl) (fun K' hK => ?_)
      go_wp2_with fail
      have hbl := H57.out.mach.lt.2
      have LT65 := Lib.hid (LitAt.new (w := w57) (bX := bm) (L := kL16) rfl (by decide) hbl)
      have hb := (Below.refl w57.heap.size w57).alloc (Nat.le_refl _) (.cells (kL16.flatMap cT).toArray 50)
      have H65 := Lib.hid (H57.out.next hb)
      have T65_0 := Lib.hid (T57_0.out.below hb)
      obtain ⟨w65, hw⟩ : ∃ x, x = w57.alloc (.cells (kL16.flatMap cT).toArray 50) := ⟨_, rfl⟩
      rw [← hw] at LT65 H65 T65_0
      simp only [kL16, actK, actC, cT, List.flatMap_cons, List.flatMap_nil, List.append_nil, List.cons_append, List.nil_append] at hw
      rw [← hw]
      clear hb hw hbl
      refine stillS T65_0.out (fun _ => ?_)
      refine wpAnyK_one 25 (by kernel_rfl) rfl (by rfl) (fun K' hK => ?_)
      go_wp2_with fail
      refine (c_onDo (m' := kM16) (L := kL16) H65.out 2 kD16).mono ?_
      rintro e w66 ⟨raw66, rcw66, rfl, hon, hrd, hk⟩
      have H66 := Lib.hid hon
      have hbx := H66.out.mach.lt.1
      have T66_0 := Lib.hid (T65_0.out.did hk (by omega))
      clear hbx
      have R66_0 := Lib.hid hrd
      have LT66 := Lib.hid (LT65.out.did hk)
      clear hon hrd hk
      go_wp2_with fail
      refine stillS T66_0.out (fun _ => ?_)
      refine wpAnyK_one 29 (by kernel_rfl) rfl (by rfl) (fun K' hK => ?_)
      go_wp2_with fail
      refine (c_same (la := kL16) (lb := kL16) R66_0.out LT66.out.rd).mono ?_
      rintro e w67 ⟨rfl, hb⟩
      have H67 := Lib.hid (H66.out.next hb)
      have T67_0 := Lib.hid (T66_0.out.below hb)
      clear hb LT66
      rw [show decide (kL16 = kL16) = true from by decide +kernel]
      go_wp2_with fail
      refine stillS T67_0.out (fun _ => ?_)
      refine wpAnyK_take 30 (v := ?_) rfl (by kernel_rfl) (fun _ _ _ h => hQ.out _ _ _ _ _ h) (.inl ⟨by rfl, ?_⟩) T67_0.out ?_
      rotate_left
      · intro w hS; clear hS; go_simp; with_reducible rfl
      refine wpAnyK_take 31 (v := ?_) rfl (by kernel_rfl) (fun _ _ _ h => hQ.out _ _ _ _ _ h) (.inl ⟨by rfl, ?_⟩) T67_0.out ?_
      rotate_left
      · intro w hS; clear hS; go_simp; with_reducible rfl
      refine wpAnyK_take 32 (v := ?_) rfl (by kernel_rfl) (fun _ _ _ h => hQ.out _ _ _ _ _ h) (.inl ⟨by rfl, ?_⟩) T67_0.out ?_
      rotate_left
      · intro w hS; clear hS; go_simp; with_reducible rfl
      refine wpAnyK_take 33 (v := ?_) rfl (by kernel_rfl) (fun _ _ _ h => hQ.out _ _ _ _ _ h) (.inl ⟨by rfl, ?_⟩) T67_0.out ?_
      rotate_left
      · intro w hS; clear hS; go_simp; with_reducible rfl
      refine wpAnyK_one 34 (by kernel_rfl) rfl (by rfl) (fun K' hK => ?_)
      go_wp2_with fail
      refine (c_in _ 11).mono ?_
      rintro e w68 ⟨rfl, hb⟩
      have H68 := Lib.hid (H67.out.next hb)
      have T68_0 := Lib.hid (T67_0.out.below hb)
      clear hb
      go_wp2_with fail
      refine stillS T68_0.out (fun _ => ?_)
      refine wpAnyK_one 35 (by kernel_rfl) rfl (by rfl) (fun K' hK => ?_)
      go_wp2_with fail
      refine (c_onDo (m' := kM18) (L := kL18) H68.out 11 kD18).mono ?_
      rintro e w69 ⟨raw69, rcw69, rfl, hon, hrd, hk⟩
      have H69 := Lib.hid hon
      have hbx := H69.out.mach.lt.1
      have T69_0 := Lib.hid (T68_0.out.did hk (by omega))
      clear hbx
      have R69_0 := Lib.hid hrd
      clear hon hrd hk
      go_wp2_with fail
      refine stillS T69_0.out (fun _ => ?_)
      refine wpAnyK_one 36 (by kernel_rfl) rfl (by rfl) (fun K' hK => ?_)
      go_wp2_with fail
      refine (c_same (la := kL18) (lb := []) R69_0.out (.inl ⟨none, rfl, rfl⟩ : Rd (fun _ => True) _ 6 cT nilS [])).mono ?_
      rintro e w70 ⟨rfl, hb⟩
      have H70 := Lib.hid (H69.out.next hb)
      have T70_0 := Lib.hid (T69_0.out.below hb)
      clear hb
      rw [show decide (kL18 = []) = true from by decide +kernel]
      go_wp2_with fail
      refine stillS T70_0.out (fun _ => ?_)
      refine wpAnyK_take 37 (v := ?_) rfl (by kernel_rfl) (fun _ _ _ h => hQ.out _ _ _ _ _ h) (.inl ⟨by rfl, ?_⟩) T70_0.out ?_
      rotate_left
      · intro w hS; clear hS; go_simp; with_reducible rfl
      refine wpAnyK_take 38 (v := ?_) rfl (by kernel_rfl) (fun _ _ _ h => hQ.out _ _ _ _ _ h) (.inl ⟨by rfl, ?_⟩) T70_0.out ?_
      rotate_left
      · intro w hS; clear hS; go_simp; with_reducible rfl
      refine wpAnyK_take 39 (v := ?_) rfl (by kernel_rfl) (fun _ _ _ h => hQ.out _ _ _ _ _ h) (.inl ⟨by rfl, ?_⟩) T70_0.out ?_
      rotate_left
      · intro w hS; clear hS; go_simp; with_reducible rfl
      refine wpAnyK_take 40 (v := ?_) rfl (by kernel_rfl) (fun _ _ _ h => hQ.out _ _ _ _ _ h) (.inl ⟨by rfl, ?_⟩) T70_0.out ?_
      rotate_left
      · intro w hS; clear hS; go_simp; with_reducible rfl
      refine wpAnyK_one 41 (by kernel_rfl) rfl (by rfl) (fun K' hK => ?_)
      go_wp2_with fail
      refine (c_onState H70.out kS19).mono ?_
      rintro e w71 ⟨rfl, rfl⟩
      go_wp2_with fail
      refine stillS T70_0.out (fun _ => ?_)
      refine wpAnyK_take 42 (v := ?_) rfl (by kernel_rfl) (fun _ _ _ h => hQ.out _ _ _ _ _ h) (.inl ⟨by rfl, ?_⟩) T70_0.out ?_
      rotate_left
      · intro w hS; clear hS; go_simp; with_reducible rfl
      refine wpAnyK_take 43 (v := ?_) rfl (by kernel_rfl) (fun _ _ _ h => hQ.out _ _ _ _ _ h) (.inl ⟨by rfl, ?_⟩) T70_0.out ?_
      rotate_left
      · intro w hS; clear hS; go_simp; with_reducible rfl
      refine wpAnyK_done (by kernel_rfl) ?_
      go_simp
      exact hK' _ _ _ _ _ _ _ _ _ _ _ _ _ _ _ _ _ _ _ _ _ _ _ _ _ _ _ _ _ _ _ _ _ _ _ _ _ _ _ _ _ _ _ _ H70.out T70_0.out
  · skip
    refine wpOp_wanted rfl (by rfl) (fun K' hK => ?_)
    go_wp2_with fail
    have hbl := H55.out.mach.lt.2
    have LT72 := Lib.hid (LitAt.new (w := w55) (bX := bm) (L := kL16) rfl (by decide) hbl)
    have hb := (Below.refl w55.heap.size w55).alloc (Nat.le_refl _) (.cells (kL16.flatMap cT).toArray 50)
    have H72 := Lib.hid (H55.out.next hb)
    have T72_0 := Lib.hid (T55_0.out.below hb)
    obtain ⟨w72, hw⟩ : ∃ x, x = w55.alloc (.cells (kL16.flatMap cT).toArray 50) := ⟨_, rfl⟩
    rw [← hw] at LT72 H72 T72_0
    simp only [kL16, actK, actC, cT, List.flatMap_cons, List.flatMap_nil, List.append_nil, List.cons_append, List.nil_append] at hw
    rw [← hw]
    clear hb hw hbl
    refine stillS T72_0.out (fun _ => ?_)
    refine wpAnyK_one 24 (by kernel_rfl) rfl (by rfl) (fun K' hK => ?_)
    go_wp2_with fail
    refine (c_in _ 2).mono ?_
    rintro e w73 ⟨rfl, hb⟩
    have H73 := Lib.hid (H72.out.next hb)
    have T73_0 := Lib.hid (T72_0.out.below hb)
    have LT73 := Lib.hid (LT72.out.below hb)
    clear hb
    go_wp2_with fail
    refine stillS T73_0.out (fun _ => ?_)
    refine wpAnyK_one 25 (by kernel_rfl) rfl (by rfl) (fun K' hK => ?_)
    go_wp2_with fail
    refine (c_onDo (m' := kM16) (L := kL16) H73.out 2 kD16).mono ?_
    rintro e w74 ⟨raw74, rcw74, rfl, hon, hrd, hk⟩
    have H74 := Lib.hid hon
    have hbx := H74.out.mach.lt.1
    have T74_0 := Lib.hid (T73_0.out.did hk (by omega))
    clear hbx
    have R74_0 := Lib.hid hrd
    have LT74 := Lib.hid (LT73.out.did hk)
    clear hon hrd hk
    go_wp2_with fail
    refine stillS T74_0.out (fun _ => ?_)
    refine wpAnyK_one 29 (by kernel_rfl) rfl (by rfl) (fun K' hK => ?_)
    go_wp2_with fail
    refine (c_same (la := kL16) (lb := kL16) R74_0.out LT74.out.rd).mono ?_
    rintro e w75 ⟨rfl, hb⟩
    have H75 := Lib.hid (H74.out.next hb)
    have T75_0 := Lib.hid (T74_0.out.below hb)
    clear hb LT74
    rw [show decide (kL16 = kL16) = true from by decide +kernel]
    go_wp2_with fail
    refine stillS T75_0.out (fun _ => ?_)
    refine wpAnyK_take 30 (v := ?_) rfl (by kernel_rfl) (fun _ _ _ h => hQ.out _ _ _ _ _ h) (.inl ⟨by rfl, ?_⟩) T75_0.out ?_
    rotate_left
    · intro w hS; clear hS; go_simp; with_reducible rfl
    refine wpAnyK_take 31 (v := ?_) rfl (by kernel_rfl) (fun _ _ _ h => hQ.out _ _ _ _ _ h) (.inl ⟨by rfl, ?_⟩) T75_0.out ?_
    rotate_left
    · intro w hS; clear hS; go_simp; with_reducible rfl
    refine wpAnyK_take 32 (v := ?_) rfl (by kernel_rfl) (fun _ _ _ h => hQ.out _ _ _ _ _ h) (.inl ⟨by rfl, ?_⟩) T75_0.out ?_
    rotate_left
    · intro w hS; clear hS; go_simp; with_reducible rfl
    refine wpAnyK_take 33 (v := ?_) rfl (by kernel_rfl) (fun _ _ _ h => hQ.out _ _ _ _ _ h) (.inl ⟨by rfl, ?_⟩) T75_0.out ?_
    rotate_left
    · intro w hS; clear hS; go_simp; with_reducible rfl
    refine wpAnyK_one 34 (by kernel_rfl) rfl (by rfl) (fun K' hK => ?_)
    go_wp2_with fail
    refine (c_in _ 11).mono ?_
    rintro e w76 ⟨rfl, hb⟩
    have H76 := Lib.hid (H75.out.next hb)
    have T76_0 := Lib.hid (T75_0.out.below hb)
    clear hb
    go_wp2_with fail
    refine stillS T76_0.out (fun _ => ?_)
    refine wpAnyK_one 35 (by kernel_rfl) rfl (by rfl) (fun K' hK => ?_)
    go_wp2_with fail
    refine (c_onDo (m' := kM18) (L := kL18) H76.out 11 kD18).mono ?_
    rintro e w77 ⟨raw77, rcw77, rfl, hon, hrd, hk⟩
    have H77 := Lib.hid hon
    have hbx := H77.out.mach.lt.1
    have T77_0 := Lib.hid (T76_0.out.did hk (by omega))
    clear hbx
    have R77_0 := Lib.hid hrd
    clear hon hrd hk
    go_wp2_with fail
    refine stillS T77_0.out (fun _ => ?_)
    refine wpAnyK_one 36 (by kernel_rfl) rfl (by rfl) (fun K' hK => ?_)
    go_wp2_with fail
    refine (c_same (la := kL18) (lb := []) R77_0.out (.inl ⟨none, rfl, rfl⟩ : Rd (fun _ => True) _ 6 cT nilS [])).mono ?_
    rintro e w78 ⟨rfl, hb⟩
    have H78 := Lib.hid (H77.out.next hb)
    have T78_0 := Lib.hid (T77_0.out.below hb)
    clear hb
    rw [show decide (kL18 = []) = true from by decide +kernel]
    go_wp2_with fail
    refine stillS T78_0.out (fun _ => ?_)
    refine wpAnyK_take 37 (v := ?_) rfl (by kernel_rfl) (fun _ _ _ h => hQ.out _ _ _ _ _ h) (.inl ⟨by rfl, ?_⟩) T78_0.out ?_
    rotate_left
    · intro w hS; clear hS; go_simp; with_reducible rfl
    refine wpAnyK_take 38 (v := ?_) rfl (by kernel_rfl) (fun _ _ _ h => hQ.out _ _ _ _ _ h) (.inl ⟨by rfl, ?_⟩) T78_0.out ?_
    rotate_left
    · intro w hS; clear hS; go_simp; with_reducible rfl
    refine wpAnyK_take 39 (v := ?_) rfl (by kernel_rfl) (fun _ _ _ h => hQ.out _ _ _ _ _ h) (.inl ⟨by rfl, ?_⟩) T78_0.out ?_
    rotate_left
    · intro w hS; clear hS; go_simp; with_reducible rfl
    refine wpAnyK_take 40 (v := ?_) rfl (by kernel_rfl) (fun _ _ _ h => hQ.out _ _ _ _ _ h) (.inl ⟨by rfl, ?_⟩) T78_0.out ?_
    rotate_left
    · intro w hS; clear hS; go_simp; with_reducible rfl
    refine wpAnyK_one 41 (by kernel_rfl) rfl (by rfl) (fun K' hK => ?_)
    go_wp2_with fail
    refine (c_onState H78.out kS19).mono ?_
    rintro e w79 ⟨rfl, rfl⟩
    go_wp2_with fail
    refine stillS T78_0.out (fun _ => ?_)
    refine wpAnyK_take 42 (v := ?_) rfl (by kernel_rfl) (fun _ _ _ h => hQ.out _ _ _ _ _ h) (.inl ⟨by rfl, ?_⟩) T78_0.out ?_
    rotate_left
    · intro w hS; clear hS; go_simp; with_reducible rfl
    refine wpAnyK_take 43 (v := ?_) rfl (by kernel_rfl) (fun _ _ _ h => hQ.out _ _ _ _ _ h) (.inl ⟨by rfl, ?_⟩) T78_0.out ?_
    rotate_left
    · intro w hS; clear hS; go_simp; with_reducible rfl
    refine wpAnyK_done (by kernel_rfl) ?_
    go_simp
    exact hK' _ _ _ _ _ _ _ _ _ _ _ _ _ _ _ _ _ _ _ _ _ _ _ _ _ _ _ _ _ _ _ _ _ _ _ _ _ _ _ _ _ _ _ _ H78.out T78_0.out

end Go.Proofs.Ytnbopmpbgopafaa
