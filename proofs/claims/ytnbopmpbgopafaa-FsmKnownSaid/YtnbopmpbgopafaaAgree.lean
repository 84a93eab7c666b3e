/- open.Accept, open.Agree and its closure. -/
import Derived.Test.YtnbopmpbgopafaaOwn
import Derived.Test.YtnbopmpbgopafaaRegion
namespace Go.Proofs.Ytnbopmpbgopafaa
open Go.RowKit
variable {A : Nat → Prop}

structure VerD where
  act : Int
  code : Int
  sub : Int
  deriving DecidableEq
abbrev verV (v : VerD) : Value := .agg #[.int .i64 v.act, .int .u8 v.code, .int .u8 v.sub]

theorem c_reset (sub : Int) (w : World) :
    Calls Try.prog 91 #[.int .u8 sub] w fun e w' => e = .returned (.agg #[.int .i64 3, .int .u8 2, .int .u8 sub]) ∧ Below w.heap.size w w' := by
  go_enter Try.func91, Try.ntmps91
  go_wp2
  refine bodyPost_ret (v := .agg #[.int .i64 3, .int .u8 2, .int .u8 sub]) (by simp [results, Try.results91, go_sem]) rfl ⟨rfl, ?_⟩
  repeat (first | exact Below.refl _ _ | refine Below.alloc ?_ (by simp) _)

def acceptD (o : OpenD) (as_ own : Int) : VerD := if (as_ != 0 && as_ != o.asn) = true then ⟨3, 2, 2⟩ else if (o.id == own) = true then ⟨3, 2, 3⟩ else ⟨0, 0, 0⟩

theorem c_Accept000 (w : World) (o : OpenD) (fv av kv : Value) (as_ own : Int) (h2 : (as_ != 0) = false) (h3 : (as_ != o.asn) = false) (h4 : (o.id == own) = false) :
    Calls Try.prog 86 #[openV o fv av kv, .int .u32 as_, .int .u32 own] w fun e w' => e = .returned (verV (acceptD o as_ own)) ∧ Below w.heap.size w w' := by
  have HF : acceptD o as_ own = ⟨0, 0, 0⟩ := by simp [acceptD, h2, h3, h4]
  rw [HF]
  clear HF
  unfold openV verV
  obtain ⟨asn, hold, id, fams, four, refresh, adds, hasGR, again, time, kept⟩ := o
  simp only at *
  go_enter Try.func86, Try.ntmps86
  go_wp2
  refine bodyPost_ret (v := .agg #[.int .i64 0, .int .u8 0, .int .u8 0]) (by simp [results, Try.results86, go_sem]) rfl ⟨rfl, ?_⟩
  repeat (first | exact Below.refl _ _ | refine Below.alloc ?_ (by simp) _ | refine Below.setCell ?_ (by simp) _)
theorem c_Accept001 (w : World) (o : OpenD) (fv av kv : Value) (as_ own : Int) (h2 : (as_ != 0) = false) (h3 : (as_ != o.asn) = false) (h4 : (o.id == own) = true) :
    Calls Try.prog 86 #[openV o fv av kv, .int .u32 as_, .int .u32 own] w fun e w' => e = .returned (verV (acceptD o as_ own)) ∧ Below w.heap.size w w' := by
  have HF : acceptD o as_ own = ⟨3, 2, 3⟩ := by simp [acceptD, h2, h3, h4]
  rw [HF]
  clear HF
  unfold openV verV
  obtain ⟨asn, hold, id, fams, four, refresh, adds, hasGR, again, time, kept⟩ := o
  simp only at *
  go_enter Try.func86, Try.ntmps86
  go_wp2_with (go_at_call 91; refine (c_reset _ _).mono ?_; rintro e w1 ⟨rfl, hb1⟩; have hr := below_row hb1 (b := w.heap.size + 1) (o := .cells #[.int .i64 0, .int .u8 0, .int .u8 0] 44 (0, 0)) (heap_new1 _ _ _ (by simp)); have kc := row_cell hr; have kf := row_free hr; have HB := Lib.hid ((((Below.refl _ _).alloc (Nat.le_refl _) _).alloc (by simp) _).trans (hb1.mono (by simp; omega))); clear hr hb1)
  refine bodyPost_ret (v := .agg #[.int .i64 3, .int .u8 2, .int .u8 3]) (by simp [results, Try.results86, go_sem, kc]) rfl ⟨rfl, ?_⟩
  repeat (first | exact HB.out | refine Below.setCell ?_ (by simp) _)
theorem c_Accept010 (w : World) (o : OpenD) (fv av kv : Value) (as_ own : Int) (h2 : (as_ != 0) = false) (h3 : (as_ != o.asn) = true) (h4 : (o.id == own) = false) :
    Calls Try.prog 86 #[openV o fv av kv, .int .u32 as_, .int .u32 own] w fun e w' => e = .returned (verV (acceptD o as_ own)) ∧ Below w.heap.size w w' := by
  have HF : acceptD o as_ own = ⟨0, 0, 0⟩ := by simp [acceptD, h2, h3, h4]
  rw [HF]
  clear HF
  unfold openV verV
  obtain ⟨asn, hold, id, fams, four, refresh, adds, hasGR, again, time, kept⟩ := o
  simp only at *
  go_enter Try.func86, Try.ntmps86
  go_wp2
  refine bodyPost_ret (v := .agg #[.int .i64 0, .int .u8 0, .int .u8 0]) (by simp [results, Try.results86, go_sem]) rfl ⟨rfl, ?_⟩
  repeat (first | exact Below.refl _ _ | refine Below.alloc ?_ (by simp) _ | refine Below.setCell ?_ (by simp) _)
theorem c_Accept011 (w : World) (o : OpenD) (fv av kv : Value) (as_ own : Int) (h2 : (as_ != 0) = false) (h3 : (as_ != o.asn) = true) (h4 : (o.id == own) = true) :
    Calls Try.prog 86 #[openV o fv av kv, .int .u32 as_, .int .u32 own] w fun e w' => e = .returned (verV (acceptD o as_ own)) ∧ Below w.heap.size w w' := by
  have HF : acceptD o as_ own = ⟨3, 2, 3⟩ := by simp [acceptD, h2, h3, h4]
  rw [HF]
  clear HF
  unfold openV verV
  obtain ⟨asn, hold, id, fams, four, refresh, adds, hasGR, again, time, kept⟩ := o
  simp only at *
  go_enter Try.func86, Try.ntmps86
  go_wp2_with (go_at_call 91; refine (c_reset _ _).mono ?_; rintro e w1 ⟨rfl, hb1⟩; have hr := below_row hb1 (b := w.heap.size + 1) (o := .cells #[.int .i64 0, .int .u8 0, .int .u8 0] 44 (0, 0)) (heap_new1 _ _ _ (by simp)); have kc := row_cell hr; have kf := row_free hr; have HB := Lib.hid ((((Below.refl _ _).alloc (Nat.le_refl _) _).alloc (by simp) _).trans (hb1.mono (by simp; omega))); clear hr hb1)
  refine bodyPost_ret (v := .agg #[.int .i64 3, .int .u8 2, .int .u8 3]) (by simp [results, Try.results86, go_sem, kc]) rfl ⟨rfl, ?_⟩
  repeat (first | exact HB.out | refine Below.setCell ?_ (by simp) _)
theorem c_Accept100 (w : World) (o : OpenD) (fv av kv : Value) (as_ own : Int) (h2 : (as_ != 0) = true) (h3 : (as_ != o.asn) = false) (h4 : (o.id == own) = false) :
    Calls Try.prog 86 #[openV o fv av kv, .int .u32 as_, .int .u32 own] w fun e w' => e = .returned (verV (acceptD o as_ own)) ∧ Below w.heap.size w w' := by
  have HF : acceptD o as_ own = ⟨0, 0, 0⟩ := by simp [acceptD, h2, h3, h4]
  rw [HF]
  clear HF
  unfold openV verV
  obtain ⟨asn, hold, id, fams, four, refresh, adds, hasGR, again, time, kept⟩ := o
  simp only at *
  go_enter Try.func86, Try.ntmps86
  go_wp2
  refine bodyPost_ret (v := .agg #[.int .i64 0, .int .u8 0, .int .u8 0]) (by simp [results, Try.results86, go_sem]) rfl ⟨rfl, ?_⟩
  repeat (first | exact Below.refl _ _ | refine Below.alloc ?_ (by simp) _ | refine Below.setCell ?_ (by simp) _)
theorem c_Accept101 (w : World) (o : OpenD) (fv av kv : Value) (as_ own : Int) (h2 : (as_ != 0) = true) (h3 : (as_ != o.asn) = false) (h4 : (o.id == own) = true) :
    Calls Try.prog 86 #[openV o fv av kv, .int .u32 as_, .int .u32 own] w fun e w' => e = .returned (verV (acceptD o as_ own)) ∧ Below w.heap.size w w' := by
  have HF : acceptD o as_ own = ⟨3, 2, 3⟩ := by simp [acceptD, h2, h3, h4]
  rw [HF]
  clear HF
  unfold openV verV
  obtain ⟨asn, hold, id, fams, four, refresh, adds, hasGR, again, time, kept⟩ := o
  simp only at *
  go_enter Try.func86, Try.ntmps86
  go_wp2_with (go_at_call 91; refine (c_reset _ _).mono ?_; rintro e w1 ⟨rfl, hb1⟩; have hr := below_row hb1 (b := w.heap.size + 1) (o := .cells #[.int .i64 0, .int .u8 0, .int .u8 0] 44 (0, 0)) (heap_new1 _ _ _ (by simp)); have kc := row_cell hr; have kf := row_free hr; have HB := Lib.hid ((((Below.refl _ _).alloc (Nat.le_refl _) _).alloc (by simp) _).trans (hb1.mono (by simp; omega))); clear hr hb1)
  refine bodyPost_ret (v := .agg #[.int .i64 3, .int .u8 2, .int .u8 3]) (by simp [results, Try.results86, go_sem, kc]) rfl ⟨rfl, ?_⟩
  repeat (first | exact HB.out | refine Below.setCell ?_ (by simp) _)
theorem c_Accept110 (w : World) (o : OpenD) (fv av kv : Value) (as_ own : Int) (h2 : (as_ != 0) = true) (h3 : (as_ != o.asn) = true) (h4 : (o.id == own) = false) :
    Calls Try.prog 86 #[openV o fv av kv, .int .u32 as_, .int .u32 own] w fun e w' => e = .returned (verV (acceptD o as_ own)) ∧ Below w.heap.size w w' := by
  have HF : acceptD o as_ own = ⟨3, 2, 2⟩ := by simp [acceptD, h2, h3, h4]
  rw [HF]
  clear HF
  unfold openV verV
  obtain ⟨asn, hold, id, fams, four, refresh, adds, hasGR, again, time, kept⟩ := o
  simp only at *
  go_enter Try.func86, Try.ntmps86
  go_wp2_with (go_at_call 91; refine (c_reset _ _).mono ?_; rintro e w1 ⟨rfl, hb1⟩; have hr := below_row hb1 (b := w.heap.size + 1) (o := .cells #[.int .i64 0, .int .u8 0, .int .u8 0] 44 (0, 0)) (heap_new1 _ _ _ (by simp)); have kc := row_cell hr; have kf := row_free hr; have HB := Lib.hid ((((Below.refl _ _).alloc (Nat.le_refl _) _).alloc (by simp) _).trans (hb1.mono (by simp; omega))); clear hr hb1)
  refine bodyPost_ret (v := .agg #[.int .i64 3, .int .u8 2, .int .u8 2]) (by simp [results, Try.results86, go_sem, kc]) rfl ⟨rfl, ?_⟩
  repeat (first | exact HB.out | refine Below.setCell ?_ (by simp) _)
theorem c_Accept111 (w : World) (o : OpenD) (fv av kv : Value) (as_ own : Int) (h2 : (as_ != 0) = true) (h3 : (as_ != o.asn) = true) (h4 : (o.id == own) = true) :
    Calls Try.prog 86 #[openV o fv av kv, .int .u32 as_, .int .u32 own] w fun e w' => e = .returned (verV (acceptD o as_ own)) ∧ Below w.heap.size w w' := by
  have HF : acceptD o as_ own = ⟨3, 2, 2⟩ := by simp [acceptD, h2, h3, h4]
  rw [HF]
  clear HF
  unfold openV verV
  obtain ⟨asn, hold, id, fams, four, refresh, adds, hasGR, again, time, kept⟩ := o
  simp only at *
  go_enter Try.func86, Try.ntmps86
  go_wp2_with (go_at_call 91; refine (c_reset _ _).mono ?_; rintro e w1 ⟨rfl, hb1⟩; have hr := below_row hb1 (b := w.heap.size + 1) (o := .cells #[.int .i64 0, .int .u8 0, .int .u8 0] 44 (0, 0)) (heap_new1 _ _ _ (by simp)); have kc := row_cell hr; have kf := row_free hr; have HB := Lib.hid ((((Below.refl _ _).alloc (Nat.le_refl _) _).alloc (by simp) _).trans (hb1.mono (by simp; omega))); clear hr hb1)
  refine bodyPost_ret (v := .agg #[.int .i64 3, .int .u8 2, .int .u8 2]) (by simp [results, Try.results86, go_sem, kc]) rfl ⟨rfl, ?_⟩
  repeat (first | exact HB.out | refine Below.setCell ?_ (by simp) _)
theorem c_Accept (w : World) (o : OpenD) (fv av kv : Value) (as_ own : Int) :
    Calls Try.prog 86 #[openV o fv av kv, .int .u32 as_, .int .u32 own] w fun e w' => e = .returned (verV (acceptD o as_ own)) ∧ Below w.heap.size w w' := by
  cases h2 : (as_ != 0) <;> cases h3 : (as_ != o.asn) <;> cases h4 : (o.id == own)
  · exact c_Accept000 w o fv av kv as_ own h2 h3 h4
  · exact c_Accept001 w o fv av kv as_ own h2 h3 h4
  · exact c_Accept010 w o fv av kv as_ own h2 h3 h4
  · exact c_Accept011 w o fv av kv as_ own h2 h3 h4
  · exact c_Accept100 w o fv av kv as_ own h2 h3 h4
  · exact c_Accept101 w o fv av kv as_ own h2 h3 h4
  · exact c_Accept110 w o fv av kv as_ own h2 h3 h4
  · exact c_Accept111 w o fv av kv as_ own h2 h3 h4
end Go.Proofs.Ytnbopmpbgopafaa
