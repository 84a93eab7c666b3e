/- open.Check: whether an open may be. -/
import Derived.Test.YtnbopmpbgopafaaLeaf
namespace Go.Proofs.Ytnbopmpbgopafaa
open Go.RowKit
variable {A : Nat → Prop}

structure OpenD where
  asn : Int
  hold : Int
  id : Int
  fams : List Int
  four : Bool
  refresh : Bool
  adds : List AddD
  hasGR : Bool
  again : Bool
  time : Int
  kept : List RestD
  deriving DecidableEq

/-- An open as Go's value, the three slices' values beside it. -/
abbrev openV (o : OpenD) (fv av kv : Value) : Value :=
  .agg #[.int .u32 o.asn, .int .i64 o.hold, .int .u32 o.id, fv, .bool o.four, .bool o.refresh, av, .bool o.hasGR, .bool o.again, .int .i64 o.time, kv]

abbrev openCells (o : OpenD) (fv av kv : Value) : Array Value :=
  #[.int .u32 o.asn, .int .i64 o.hold, .int .u32 o.id, fv, .bool o.four, .bool o.refresh, av, .bool o.hasGR, .bool o.again, .int .i64 o.time, kv]
abbrev openZero : Array Value := #[.int .u32 0, .int .i64 0, .int .u32 0, .slice none 0 0, .bool false, .bool false, .slice none 0 0, .bool false, .bool false, .int .i64 0, .slice none 0 0]

structure OpenAt (A : Nat → Prop) (w : World) (o : OpenD) (fv av kv : Value) : Prop where
  fams : Rd A w 1 cI fv o.fams
  adds : Rd A w 3 cA av o.adds
  kept : Rd A w 2 cR kv o.kept
theorem OpenAt.keeps {A A' : Nat → Prop} {w w' : World} {o : OpenD} {fv av kv : Value} (h : OpenAt A w o fv av kv) (hk : Keeps A' w w') (hA : ∀ k, A k → A' k) : OpenAt A w' o fv av kv :=
  ⟨h.fams.keeps hk hA, h.adds.keeps hk hA, h.kept.keeps hk hA⟩
theorem OpenAt.below {A : Nat → Prop} {w w' : World} {o : OpenD} {fv av kv : Value} (h : OpenAt A w o fv av kv) (hk : Below w.heap.size w w') : OpenAt A w' o fv av kv :=
  ⟨h.fams.below hk, h.adds.below hk, h.kept.below hk⟩
theorem OpenAt.mono {A A' : Nat → Prop} {w : World} {o : OpenD} {fv av kv : Value} (h : OpenAt A w o fv av kv) (hA : ∀ k, A k → A' k) : OpenAt A' w o fv av kv :=
  ⟨h.fams.mono hA, h.adds.mono hA, h.kept.mono hA⟩

def checkD (o : OpenD) : Bool :=
  !(o.asn == 0) && !(!o.four && decide (65535 < o.asn)) && !(decide (o.hold < 0)) && !(o.hold == 1) && !(o.hold == 2) && !(decide (65535 < o.hold)) && !(o.id == 0) &&
  !(decide (o.fams = [])) && risingL (o.fams.map id) 0 && risingL (o.adds.map AddD.fam) 0 && !(o.adds.any pNone) &&
  !(!o.hasGR && (o.again || !(o.time == 0) || !(decide (o.kept = [])))) && !(decide (o.time < 0)) && !(decide (4095 < o.time)) && risingL (o.kept.map RestD.fam) 0

def chkN (o : OpenD) : Int := if checkD o then 0 else 2

set_option maxHeartbeats 1000000 in
theorem c_Check {w : World} {o : OpenD} {fv av kv : Value} (h : OpenAt A w o fv av kv) :
    Calls Try.prog 27 #[openV o fv av kv] w fun e w' => e = .returned (.int .i64 (chkN o)) ∧ Below w.heap.size w w' := by
  obtain ⟨hf, ha, hk⟩ := h
  obtain ⟨fa, fc, rfl, hf2, hf3, hf4⟩ := hf.open
  obtain ⟨aa, ac, rfl, ha2, ha3, ha4⟩ := ha.open
  obtain ⟨ka, kc, rfl, hk2, hk3, hk4⟩ := hk.open
  unfold openV
  obtain ⟨asn, hold, id, fams, four, refresh, adds, hasGR, again, time, kept⟩ := o
  simp only at *
  have HF := Lib.hid hf
  have HA := Lib.hid ha
  have HK := Lib.hid hk
  clear hf ha hk hf2 hf3 hf4 ha2 ha3 ha4 hk2 hk3 hk4
  go_enter Try.func27, Try.ntmps27
  go_wp2_with (first
    | (go_at_call 47; refine (c_risingI (HF.out.below ((Below.refl _ _).alloc (Nat.le_refl _) _))).mono ?_; rintro e w1 ⟨rfl, hb1⟩; have B1 := Lib.hid (below_of_alloc hb1 (by simp)); obtain ⟨hc1, hf1⟩ := bcell hb1; have hz1 : w.heap.size < w1.heap.size := by have := hb1.size; simp at this; omega)
    | (go_at_call 49; refine (c_risingA (HA.out.below B1.out)).mono ?_; rintro e w2 ⟨rfl, hb2⟩; have B2 := Lib.hid (B1.out.trans (hb2.mono B1.out.size)); obtain ⟨hc2, hf2⟩ := bcell hb2; have hz2 : w.heap.size < w2.heap.size := by have := hb2.size; omega)
    | (go_at_call 51; refine (c_ContainsNone (HA.out.below B2.out)).mono ?_; rintro e w3 ⟨rfl, hb3⟩; have B3 := Lib.hid (B2.out.trans (hb3.mono B2.out.size)); obtain ⟨hc3, hf3⟩ := bcell hb3; have hz3 : w.heap.size < w3.heap.size := by have := hb3.size; omega)
    | (go_at_call 53; refine (c_risingR (HK.out.below B3.out)).mono ?_; rintro e w4 ⟨rfl, hb4⟩; have B4 := Lib.hid (B3.out.trans (hb4.mono B3.out.size))))
  all_goals
    first
    | (exfalso; simp_all [-List.any_eq_true, -List.any_eq_false]; done)
    | (go_ret
       refine ⟨ret_i64 ?_, ?_⟩
       · first | (simp_all [chkN, checkD, -List.any_eq_true, -List.any_eq_false]; done) | (simp_all [chkN, checkD, -List.any_eq_true, -List.any_eq_false]; intro hk; simp_all)
       · first | exact (Below.refl _ _).alloc (Nat.le_refl _) _ | exact B4.out | exact B3.out | exact B2.out | exact B1.out)
end Go.Proofs.Ytnbopmpbgopafaa
