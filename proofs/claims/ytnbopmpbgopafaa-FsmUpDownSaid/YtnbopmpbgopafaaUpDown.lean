/- heraldlaw20.FsmUpDown: the walk. -/
import Derived.Test.YtnbopmpbgopafaaStops
import Derived.Test.YtnbopmpbgopafaaPlain2
namespace Go.Proofs.Ytnbopmpbgopafaa
open Go.RowKit
variable {A B : Nat → Prop}

set_option maxRecDepth 100000 in
set_option maxHeartbeats 8000000 in
theorem w_UpDown {w : World} {pc : Array Value} {p : PeerD} (hp : PeerAt pc p) {o : OpenD} {qf qa qk : Value} (ho : OpenIn w o qf qa qk) {v1 : Value} {l1 : List InpD}
    (h1 : Rd (fun b => b < w.heap.size) w 15 cIn v1 l1) (g1 : ∀ x ∈ l1, InpIn w x) :
    Calls Try.prog 4 #[.agg pc, openV o qf qa qk, v1] w fun e w' => e = .returned (.bool true) ∧ Below w.heap.size w w' := by
  have HP := Lib.hid hp
  have HO := Lib.hid ho
  have H1 := Lib.hid (And.intro h1 g1)
  have hsz := hp.size
  obtain ⟨a1, c1, rfl, z1⟩ := h1.open
  have Z := Lib.hid z1
  clear hp ho h1 g1 z1
  obtain ⟨W0, hW0⟩ : ∃ x, x = (w.alloc (.cells pc 28)).alloc (.cells (openCells o qf qa qk) 32) := ⟨_, rfl⟩
  have r0 : W0.heap[w.heap.size]? = some (.cells pc 28 (0, 0)) := by rw [hW0]; exact heap_old1 (heap_new1 _ _ _ rfl)
  have r1 : W0.heap[w.heap.size + 1]? = some (.cells (openCells o qf qa qk) 32 (0, 0)) := by rw [hW0]; exact heap_new1 _ _ _ (by simp)
  have b0 : Below w.heap.size w W0 := by rw [hW0]; exact ((Below.refl _ _).alloc (Nat.le_refl _) _).alloc (by simp) _
  have R := Lib.hid (And.intro r0 (And.intro r1 b0))
  clear r0 r1 b0
  unfold openV
  go_enter Try.func4, Try.ntmps4
  go_wp2_with fail
  rw [← hW0]
  clear hW0
  refine (c_works _).mono ?_
  rintro e w3 ⟨rfl, hb3⟩
  have hz0 := R.out.2.2.size
  have hz3 : w.heap.size + 2 ≤ W0.heap.size := by
    have := (Array.getElem?_eq_some_iff.1 R.out.2.1).1
    omega
  have B3 := Lib.hid (R.out.2.2.trans (hb3.mono R.out.2.2.size))
  have D3 := Lib.hid (hb3.mono hz3)
  have R3 := Lib.hid (And.intro (below_row hb3 R.out.1) (below_row hb3 R.out.2.1))
  have O3 := Lib.hid ((HO.out.at_.below R.out.2.2).below (hb3.mono (by simp)))
  clear hb3
  have c1' := row_cell R3.out.2
  go_wp2_with (with_reducible refine wpList_load_row rfl 28 (.tmp 3) rfl w.heap.size rfl 28 pc (0, 0) _ R3.out.1 Try.underlying28 rfl (by rw [HP.out.size]; exact i_Peer) ?_)
  refine (c_New HP.out O3.out (by have := HO.out.l1; omega) (by have := HO.out.l2; omega) (by have := HO.out.l3; omega)).mono ?_
  rintro e w4 hn
  have HN := Lib.hid hn
  clear hn c1'
  by_cases hok : newOk p o = true
  · obtain ⟨bm, rfl, hm4, hb4⟩ := Mach.of_new HN.out hok
    have hz33 := D3.out.size
    have M4 := Lib.hid (hm4.lower (Nat.le_trans hz3 hz33))
    have D4 := Lib.hid (below_trans D3.out hb4 hz3)
    have hl1 : l1.length ≤ 9223372036854775807 := by have := Z.out; unfold maxLen at this; omega
    clear hm4 hb4 hok HN O3 B3 R3
    go_upto_block 0 with fail
    go_cut [] (fun W => Below (w.heap.size + 2) W0 W)
    case first =>
      go_wp2_with fail
      go_loopw [9] (fun i wr => ∃ k : Nat, k ≤ l1.length ∧ k ≤ 200 ∧ i = .int .i64 k ∧ ∃ m, Mach (w.heap.size + 2) (fun k => k = bm) wr bm m ∧ (StOk m ∧ Small m) ∧ Below (w.heap.size + 2) W0 wr) (fun i _ => 200 - (intOf i).toNat)
      case atStart => exact ⟨0, by simp, by simp, rfl, newD p o, M4.out, ⟨⟨by simp [newD], by simp [newD]⟩, small_new _ _⟩, D4.out⟩
      case round =>
        obtain ⟨k, hk, hk2, rfl, m, hm, hst, hb⟩ := hrel
        have M := Lib.hid hm
        have ST := Lib.hid hst
        have D := Lib.hid hb
        clear hm hst hb
        by_cases hlt : k < l1.length
        · by_cases hlt2 : k < 200
          · obtain ⟨b, off, rfl, hin⟩ := inp_at H1.out.1 R.out.2.2 D.out (by omega) k hlt
            have HG := Lib.hid (H1.out.2 l1[k] (List.getElem_mem hlt))
            obtain ⟨x, hx⟩ : ∃ x, x = l1[k] := ⟨_, rfl⟩
            rw [← hx] at hin HG
            obtain ⟨q0, q1, q2, q3, q4, q5, q6, q7, q8, q9, q10, q11, q12, q13, q14⟩ := inp_cells hin
            clear hin hx
            go_wp2_with fail
            refine (c_State M.out.state).mono ?_
            rintro e w5 ⟨rfl, rfl⟩
            go_wp2_with fail
            clear q0 q1 q2 q3 q4 q5 q6 q7 q8 q9 q10 q11 q12 q13 q14
            have hbm := M.out.lt
            have hwz := D.out.size
            refine (c_DoM (kd := x.kd) (o := x.o) (qf := x.qf) (qa := x.qa) (qk := x.qk) (d := x.d) M.out (fun k hk => hk ▸ hbm.2) ((HG.out.at_.at_.below R.out.2.2).keeps (Keeps.of_below' (A := fun k => k < w.heap.size) D.out (fun k hk => by omega)) (fun _ h => h)) (fun k hk => ⟨by omega, by omega⟩)
              (by have := HG.out.at_.l1; omega) (by have := HG.out.at_.l2; omega) (by have := HG.out.at_.l3; omega)).mono ?_
            have hso := do_ok (k := x.kd) (o := x.o) (d := x.d) ST.out.1
            have hsm := small_do (k := x.kd) (o := x.o) (d := x.d) ST.out.2
            generalize doD m x.kd x.o x.d = r at *
            obtain ⟨m', L⟩ := r
            simp only at hsm
            rintro e w6 ⟨ra, rc, rfl, hm6, ho6, hk6⟩
            have M6 := Lib.hid hm6
            have D6 := Lib.hid (below_did D.out hk6 hbm.1 (by omega))
            have SO := Lib.hid (And.intro hso hsm)
            have O6 := Lib.hid (acts_at (ho6.rd cod_T))
            have hL := hso.len
            simp only at hL
            have S6 := Lib.hid (show w6.cell? ⟨bm, 35, none⟩ = some (.int .i64 m'.state) from M6.out.state)
            clear hm6 hk6 hso hsm ho6
            go_wp2_with fail
            refine (c_State S6.out).mono ?_
            rintro e w7 ⟨rfl, rfl⟩
            go_upto_block 2 with fail
            go_cut [13, 14] (fun v13 v14 W => v13 = .int .i64 (cnt 8 L : Nat) ∧ v14 = .int .i64 (cnt 9 L : Nat) ∧ W = w6)
            case first =>
              go_wp2_with fail
              go_loop [13, 14, 15] (fun u d kk => ∃ j : Nat, j ≤ L.length ∧ kk = .int .i64 j ∧ u = .int .i64 (cnt 8 (L.take j) : Nat) ∧ d = .int .i64 (cnt 9 (L.take j) : Nat)) (fun _ _ kk => L.length - (intOf kk).toNat)
              case atStart => exact ⟨0, by omega, rfl, rfl, rfl⟩
              case round =>
                obtain ⟨j, hj, rfl, rfl, rfl⟩ := hrel
                have hc8 := cnt_le 8 (L.take j)
                have hc9 := cnt_le 9 (L.take j)
                have hlj : (L.take j).length ≤ 6 := Nat.le_trans (List.length_take_le' _ _) hL
                by_cases hjl : j < L.length
                · rcases O6.out with hnil | ⟨b2, off2, rfl, hc⟩
                  · rw [hnil] at hjl; simp at hjl
                  have q := hc j _ (List.getElem?_eq_getElem hjl)
                  have K8 := Lib.hid (cnt_snoc 8 L j hjl)
                  have K9 := Lib.hid (cnt_snoc 9 L j hjl)
                  obtain ⟨z, hz⟩ : ∃ z, z = L[j].kind := ⟨_, rfl⟩
                  rw [← hz] at q K8 K9
                  clear hz hc
                  by_cases h8 : z = 8
                  · have K8 := Lib.hid (K8.out.trans (by rw [if_pos h8]))
                    have K9 := Lib.hid (K9.out.trans (by rw [if_neg (by omega)]))
                    subst h8
                    go_wp2
                    go_round
                    case rel => exact ⟨j + 1, by omega, by go_num, by rw [K8.out]; go_num, by rw [K9.out]; rfl⟩
                    case measure => simp [intOf]; omega
                  · by_cases h9 : z = 9
                    · have K8 := Lib.hid (K8.out.trans (by rw [if_neg h8]))
                      have K9 := Lib.hid (K9.out.trans (by rw [if_pos h9]))
                      subst h9
                      go_wp2
                      go_round
                      case rel => exact ⟨j + 1, by omega, by go_num, by rw [K8.out]; rfl, by rw [K9.out]; go_num⟩
                      case measure => simp [intOf]; omega
                    · have K8 := Lib.hid (K8.out.trans (by rw [if_neg h8]))
                      have K9 := Lib.hid (K9.out.trans (by rw [if_neg h9]))
                      have e8 : (z == 8) = false := by simp [h8]
                      have e9 : (z == 9) = false := by simp [h9]
                      clear h8 h9
                      go_wp2
                      go_round
                      case rel => exact ⟨j + 1, by omega, by go_num, by rw [K8.out]; rfl, by rw [K9.out]; rfl⟩
                      case measure => simp [intOf]; omega
                · have HT := Lib.hid (show L.take j = L from List.take_of_length_le (by omega))
                  go_wp2
                  go_meet
                  case rel => exact ⟨by rw [HT.out], by rw [HT.out], rfl⟩
            case rest =>
              obtain ⟨rfl, rfl, rfl⟩ := hcut
              have hst := SO.out.1.st
              have hups := SO.out.1.ups
              have hdowns := SO.out.1.downs
              simp only at hst hups hdowns
              have h16 : m'.state ≤ 6 := hst.2
              have h11 : 1 ≤ m'.state := hst.1
              obtain ⟨a, b, c, u, d, f1, f2, f3, f4, f5, f5', f6, f7, hmem⟩ : ∃ (a b c : Bool) (u d : Nat), (m.state == 6) = a ∧ (m.state != 6) = (!a) ∧ (m'.state == 6) = b ∧ (m'.state != 6) = (!b) ∧ decide (5 ≤ m'.state) = c ∧ decide (m'.state ≥ 5) = c ∧ cnt 8 L = u ∧ cnt 9 L = d ∧
                  ((a, b, c, u, d) = (true, true, true, 0, 0) ∨ (a, b, c, u, d) = (true, false, true, 0, 1) ∨ (a, b, c, u, d) = (true, false, false, 0, 1) ∨ (a, b, c, u, d) = (false, true, true, 1, 0) ∨ (a, b, c, u, d) = (false, false, true, 0, 0) ∨ (a, b, c, u, d) = (false, false, false, 0, 0)) := by
                refine ⟨_, _, _, _, _, rfl, rfl, rfl, rfl, rfl, rfl, rfl, rfl, ?_⟩
                rw [hups, hdowns]
                by_cases a6 : m.state = 6 <;> by_cases b6 : m'.state = 6 <;> by_cases h5 : 5 ≤ m'.state <;> first | (exfalso; omega) | simp [a6, b6, h5]
              clear hst hups hdowns
              simp only [Prod.mk.injEq] at hmem
              have hd8 := D6.out.size
              go_wp2_with fail
              refine (c_SessionM M6.out SO.out.2).mono ?_
              rintro e w7 ⟨fa, fc, sa, sc, ra2, rc2, ka, kc, rfl, _, hb7⟩
              go_wp2_with fail
              have M7 := Lib.hid (M6.out.below hb7)
              have D7 := Lib.hid (below_trans D6.out hb7 (by omega))
              have hs7 := hb7.size
              clear hb7
              refine (c_TheirsM (M7.out.below ((Below.refl _ _).alloc (Nat.le_refl _) _)) SO.out.2).mono ?_
              rintro e w8 ⟨ga, gc, aa, ac, ka2, kc2, rfl, _, hb8⟩
              have M8 := Lib.hid ((M7.out.below ((Below.refl _ _).alloc (Nat.le_refl _) _)).below hb8)
              have D8 := Lib.hid (D7.out.trans (((Below.refl _ _).alloc (by omega) _).trans (hb8.mono (by simp; omega))))
              have hs8 := hb8.size
              simp at hs8
              clear hb8
              rcases hmem with ⟨rfl, rfl, rfl, rfl, rfl⟩ | ⟨rfl, rfl, rfl, rfl, rfl⟩ | ⟨rfl, rfl, rfl, rfl, rfl⟩ | ⟨rfl, rfl, rfl, rfl, rfl⟩ | ⟨rfl, rfl, rfl, rfl, rfl⟩ | ⟨rfl, rfl, rfl, rfl, rfl⟩
              all_goals
                go_wp2
                go_roundw
                case rel => exact ⟨k + 1, by omega, by omega, by go_num, m', M8.out.below ((Below.refl _ _).alloc (Nat.le_refl _) _), ⟨SO.out.1.st, SO.out.2⟩, D8.out.alloc (by omega) _⟩
                case measure => simp [intOf]; omega
          · go_wp2
            go_meet
            case rel => exact D.out
        · go_wp2
          go_meet
          case rel => exact D.out
    case rest =>
      have D5 := Lib.hid (R.out.2.2.trans (hcut.mono (by omega)))
      clear hcut
      go_wp2
      go_ret
      exact ⟨rfl, D5.out⟩
  · have hn := HN.out
    unfold NewPost at hn
    rw [if_neg hok] at hn
    obtain ⟨rfl, hb4⟩ := hn
    have B4 := Lib.hid (below_trans B3.out hb4 (Nat.le_refl _))
    clear hok hb4 HN
    go_wp2
    go_ret
    exact ⟨rfl, B4.out⟩
end Go.Proofs.Ytnbopmpbgopafaa
