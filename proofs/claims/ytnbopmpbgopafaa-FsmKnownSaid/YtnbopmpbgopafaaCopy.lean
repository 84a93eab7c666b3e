/- fsm: Copy. -/
import Derived.Test.YtnbopmpbgopafaaSes
import Derived.Test.YtnbopmpbgopafaaStops
namespace Go.Proofs.Ytnbopmpbgopafaa
open Go.RowKit
variable {A : Nat → Prop}

theorem run_load_row {P : Program} (w : World) (b : Nat) (cs : Array Value) (n : Nat) (e : TypeId) (hn : cs.size = n) (hr : w.heap[b]? = some (.cells cs e (0, 0))) :
    (loadCellsFrom ⟨b, 0, none⟩ 0 n #[]).run P w = .ok cs w := by
  subst hn
  have := run_loadCells_list (P := P) w ⟨b, 0, none⟩ cs.toList (fun j v hv => by rw [addr_add, Nat.zero_add, row_cell hr]; simpa using hv)
  simpa [loadCells] using this

theorem Rd.one {τ : Type} {w : World} {sz : Nat} {enc : τ → List Value} {v : Value} {l : List τ} (h : Rd A w sz enc v l) : v.oneCell' = true := by
  obtain ⟨a, c, rfl, _⟩ := h.open
  rfl
theorem mach_one {w : World} {bm : Nat} {m : MachD} {v : MV} (h : MachAt A w bm m v) : (machCells m v).all (·.oneCell') = true := by
  have e1 := h.held.mine.fams.one
  have e2 := h.held.mine.adds.one
  have e3 := h.held.mine.kept.one
  have e4 := h.held.ses.fams.one
  have e5 := h.held.ses.send.one
  have e6 := h.held.ses.take.one
  have e7 := h.held.ses.kept.one
  have e8 := h.held.theirs.fams.one
  have e9 := h.held.theirs.adds.one
  have e10 := h.held.theirs.kept.one
  rw [Array.all_eq_true']
  intro x hx
  simp only [List.mem_toArray, List.mem_cons, List.not_mem_nil, or_false] at hx
  repeat (rcases hx with rfl | hx; · first | rfl | assumption)
abbrev machZero : Array Value := machCells ⟨0, 0, false, openNone, false, 0, sesNone, openNone⟩ ⟨nilS, nilS, nilS, nilS, nilS, nilS, nilS, nilS, nilS, nilS⟩

set_option maxRecDepth 100000 in
set_option maxHeartbeats 1000000 in
theorem c_Copy {w : World} {bm : Nat} {m : MachD} {v : MV} (hm : MachAt A w bm m v) :
    Calls Try.prog 16 #[.pointer (some ⟨bm, 0, none⟩)] w fun e w' => e = .returned (.pointer (some ⟨w.heap.size, 0, none⟩)) ∧ w' = w.alloc (.cells (machCells m v) 76) := by
  have hr := hm.row
  have hst : w.cell? ⟨bm, 35, none⟩ = some (.int .i64 m.state) := by rw [row_cell hr]; rfl
  have e0 : (m.state == 0) = false := by have := hm.st; simp; omega
  have hone := mach_one hm
  obtain ⟨cs, hcs⟩ : ∃ cs, cs = machCells m v := ⟨_, rfl⟩
  have hsz : cs.size = 57 := by rw [hcs]; rfl
  rw [← hcs] at hr hone ⊢
  have HO := Lib.hid hone
  have HR := Lib.hid hr
  clear hcs hone hr hm
  go_enter Try.func16, Try.ntmps16
  go_wp2_with fail
  refine (c_none hst).mono ?_
  rintro e w1 ⟨rfl, rfl⟩
  go_upto_region 3 with fail
  refine wp_region_lit ?_
  refine wpList_plain rfl fun K1 hK1 => ?_
  go_simp
  refine hK1 _ _ ?_
  refine wpList_plain rfl fun K2 hK2 => ?_
  go_simp
  refine hK2 _ _ ?_
  refine wpList_load_row rfl 76 (.tmp 7) rfl bm rfl 76 cs (0, 0) _ HR.out Try.underlying76 rfl (by rw [hsz]; kernel_rfl) ?_
  refine wpList_plain rfl fun K3 hK3 => ?_
  go_simp
  refine hK3 _ _ ?_
  refine wpList_store_new (c := machZero) rfl (.tmp 3) (.tmp 8) rfl rfl cs rfl rfl (by rw [hsz]; kernel_rfl) (by rw [hsz]; rfl) HO.out ?_
  go_wp2
  go_ret
  exact ⟨rfl, rfl⟩

theorem Mach.copy {base : Nat} {S : Nat → Prop} {w : World} {bm : Nat} {m : MachD} {v : MV} (hm : MachAt A w bm m v) (hb : base ≤ bm) (hA : ∀ k, A k → base ≤ k ∧ ¬ S k) :
    Mach base (fun k => S k ∨ k = w.heap.size) (w.alloc (.cells (machCells m v) 76)) bm m ∧ Mach base (fun k => S k ∨ k = w.heap.size) (w.alloc (.cells (machCells m v) 76)) w.heap.size m := by
  have hbm := (Array.getElem?_eq_some_iff.1 hm.row).1
  have hk := (Keeps.refl (fun _ => True) w).alloc (.cells (machCells m v) 76)
  have hh : Held A (w.alloc (.cells (machCells m v) 76)) m v := hm.held.keeps hk (fun _ _ => trivial)
  refine ⟨⟨hb, A, v, ⟨heap_old1 hm.row, hh, fun k h => ⟨by have := (hm.hA k h).1; simp; omega, (hm.hA k h).2⟩, hm.hold, hm.st⟩, fun k h => ⟨(hA k h).1, fun hs => ?_⟩⟩, ⟨by omega, A, v, ⟨heap_new1 _ _ _ rfl, hh, fun k h => ⟨by have := (hm.hA k h).1; simp; omega, by have := (hm.hA k h).1; omega⟩, hm.hold, hm.st⟩, fun k h => ⟨(hA k h).1, fun hs => ?_⟩⟩⟩
  · rcases hs with hs | hs
    · exact (hA k h).2 hs
    · have := (hm.hA k h).1; omega
  · rcases hs with hs | hs
    · exact (hA k h).2 hs
    · have := (hm.hA k h).1; omega
/-- Copy: the machine and one more, that stand apart. -/
theorem c_CopyM {base : Nat} {S : Nat → Prop} {w : World} {bm : Nat} {m : MachD} (hm : Mach base S w bm m) :
    Calls Try.prog 16 #[.pointer (some ⟨bm, 0, none⟩)] w fun e w' => e = .returned (.pointer (some ⟨w.heap.size, 0, none⟩)) ∧ w'.heap.size = w.heap.size + 1 ∧ Below w.heap.size w w' ∧
      Mach base (fun k => S k ∨ k = w.heap.size) w' bm m ∧ Mach base (fun k => S k ∨ k = w.heap.size) w' w.heap.size m := by
  obtain ⟨hb, A, v, hma, hA⟩ := hm
  refine (c_Copy hma).mono ?_
  rintro e w' ⟨rfl, rfl⟩
  exact ⟨rfl, by simp, (Below.refl _ _).alloc (Nat.le_refl _) _, Mach.copy hma hb hA⟩
end Go.Proofs.Ytnbopmpbgopafaa
