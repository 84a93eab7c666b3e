/- heraldlaw20.FsmStops: the walk. -/
import Derived.Test.YtnbopmpbgopafaaRead2
import Derived.Laws.Rows
import Derived.Deep.CutBlock
namespace Go.Proofs.Ytnbopmpbgopafaa
open Go.RowKit
variable {A B : Nat → Prop}

theorem i_Peer : (Try.prog.info? 28).map (·.size) = some 23 := by kernel_rfl

theorem run_loadVar_list {P : Program} (w : World) (b off : Nat) (ty : TypeId) (cs : Array Value) (d : TypeDesc) (hc : ∀ j u, cs.toList[j]? = some u → w.cell? ⟨b, off + j, none⟩ = some u)
    (hu : P.underlying ty = some d) (hd : (match d with | .struct _ | .array _ _ => true | _ => false) = true) (hi : (P.info? ty).map (·.size) = some cs.size) :
    (loadVar ty ⟨b, off, none⟩).run P w = .ok (.agg cs) w := by
  have hl : (loadCells ⟨b, off, none⟩ cs.toList.length).run P w = .ok cs.toList.toArray w :=
    run_loadCells_list (P := P) w ⟨b, off, none⟩ cs.toList (fun j v hv => by rw [addr_add]; exact hc j v hv)
  cases hq : P.info? ty with
  | none => simp [hq] at hi
  | some i =>
    have hs : i.size = cs.size := by simpa [hq] using hi
    have hagg : (isAgg ty).run P w = .ok true w := by
      unfold isAgg
      rw [Sem.run_bind, run_underlying hu w]
      cases d <;> simp_all
    simp only [Array.length_toList, Array.toArray_toList] at hl
    simp [loadVar, Sem.run_bind, hagg, sizeOf, typeInfo, hq, hs, hl]
/-- A struct that lies anywhere, read whole. -/
theorem wpList_load_list {P : Program} {ops : Array Oper} {rest : List Oper} {o : Oper} {a : Act} {w : World} {Q : Exit → Act → World → Prop} (hgd : o.guard = none) (ty : TypeId) (x : Operand) (ho : o.op = .load ty x)
    (b off : Nat) (hx : a.eval x = .pointer (some ⟨b, off, none⟩)) (cs : Array Value) (d : TypeDesc) (hc : ∀ j u, cs.toList[j]? = some u → w.cell? ⟨b, off + j, none⟩ = some u)
    (hu : P.underlying ty = some d) (hd : (match d with | .struct _ | .array _ _ => true | _ => false) = true) (hi : (P.info? ty).map (·.size) = some cs.size)
    (h : wpList P ops Q rest (a.put o.dst (.agg cs)) w) : wpList P ops Q (o :: rest) a w :=
  wpList_plain hgd fun K hK => by
    unfold Oper.wp execOp
    simp only [ho, hx, Instr.loadAt, Instr.sureAddr, Sem.run_bind, Sem.run_pure, Result.andThen_ok, run_loadVar_list w b off ty cs d hc hu hd hi]
    exact hK _ _ h
theorem i_Inp : (Try.prog.info? 46).map (·.size) = some 15 := by kernel_rfl
theorem kb_row {Bd : Nat} {w w' : World} (hb : Below Bd w w') {k : Nat} {o : Obj} (h : w.heap[k]? = some o) (hk : k < Bd) : w'.heap[k]? = some o := (hb.block k hk).trans h
theorem inp_at {Bd : Nat} {w w0 wr : World} {a : Option Addr} {c : Nat} {l : List InpD} (h : Rd (fun b => b < w.heap.size) w 15 cIn (.slice a l.length c) l) (h0 : Below w.heap.size w w0) (hb : Below Bd w0 wr) (hB : w.heap.size ≤ Bd) (k : Nat) (hk : k < l.length) :
    ∃ b off, a = some ⟨b, off, none⟩ ∧ ∀ j u, (cIn l[k])[j]? = some u → wr.cell? ⟨b, off + k * 15 + j, none⟩ = some u := by
  rcases h with ⟨_, _, rfl⟩ | ⟨b, off, c', hv, _, _, _, h5⟩
  · simp at hk
  · simp only [Value.slice.injEq] at hv
    refine ⟨b, off, hv.1, fun j u hu => ?_⟩
    have g := h5 k _ (List.getElem?_eq_getElem hk) j u hu
    have hlt := World.block_lt_of_cell? w _ g
    have e : wr.cell? ⟨b, off + k * 15 + j, none⟩ = w.cell? ⟨b, off + k * 15 + j, none⟩ := World.cell?_of_block ((hb.block b (Nat.lt_of_lt_of_le hlt hB)).trans (h0.block b hlt))
    rw [e]; exact g
theorem inp_cells {w : World} {b off : Nat} {x : InpD} (h : ∀ j u, (cIn x)[j]? = some u → w.cell? ⟨b, off + j, none⟩ = some u) :
    w.cell? ⟨b, off, none⟩ = some (.int .i64 x.kd) ∧ w.cell? ⟨b, off + 1, none⟩ = some (.int .u32 x.o.asn) ∧ w.cell? ⟨b, off + 2, none⟩ = some (.int .i64 x.o.hold) ∧ w.cell? ⟨b, off + 3, none⟩ = some (.int .u32 x.o.id) ∧ w.cell? ⟨b, off + 4, none⟩ = some (x.qf) ∧ w.cell? ⟨b, off + 5, none⟩ = some (.bool x.o.four) ∧ w.cell? ⟨b, off + 6, none⟩ = some (.bool x.o.refresh) ∧ w.cell? ⟨b, off + 7, none⟩ = some (x.qa) ∧ w.cell? ⟨b, off + 8, none⟩ = some (.bool x.o.hasGR) ∧ w.cell? ⟨b, off + 9, none⟩ = some (.bool x.o.again) ∧ w.cell? ⟨b, off + 10, none⟩ = some (.int .i64 x.o.time) ∧ w.cell? ⟨b, off + 11, none⟩ = some (x.qk) ∧ w.cell? ⟨b, off + 12, none⟩ = some (.int .i64 x.d.act) ∧ w.cell? ⟨b, off + 13, none⟩ = some (.int .u8 x.d.code) ∧ w.cell? ⟨b, off + 14, none⟩ = some (.int .u8 x.d.sub) :=
  ⟨h 0 _ rfl, h 1 _ rfl, h 2 _ rfl, h 3 _ rfl, h 4 _ rfl, h 5 _ rfl, h 6 _ rfl, h 7 _ rfl, h 8 _ rfl, h 9 _ rfl, h 10 _ rfl, h 11 _ rfl, h 12 _ rfl, h 13 _ rfl, h 14 _ rfl⟩
theorem acts_at {A : Nat → Prop} {w : World} {a : Option Addr} {c : Nat} {L : List ActD} (h : Rd A w 6 cT (.slice a L.length c) L) : L = [] ∨ ∃ b off, a = some ⟨b, off, none⟩ ∧ ∀ k x, L[k]? = some x → w.cell? ⟨b, off + k * 6, none⟩ = some (.int .i64 x.kind) := by
  rcases h with ⟨_, _, rfl⟩ | ⟨b, off, c', hv, _, _, _, h5⟩
  · exact .inl rfl
  · simp only [Value.slice.injEq] at hv
    exact .inr ⟨b, off, hv.1, fun k x hx => by simpa using h5 k x hx 0 _ rfl⟩

set_option maxRecDepth 100000 in
set_option maxHeartbeats 4000000 in
theorem w_Stops {w : World} {pc : Array Value} {p : PeerD} (hp : PeerAt pc p) {o : OpenD} {qf qa qk : Value} (ho : OpenIn w o qf qa qk) {v1 v2 : Value} {l1 l2 : List InpD}
    (h1 : Rd (fun b => b < w.heap.size) w 15 cIn v1 l1) (g1 : ∀ x ∈ l1, InpIn w x) (h2 : Rd (fun b => b < w.heap.size) w 15 cIn v2 l2) (g2 : ∀ x ∈ l2, InpIn w x) :
    Calls Try.prog 3 #[.agg pc, openV o qf qa qk, .agg #[v1, v2]] w fun e w' => e = .returned (.bool true) ∧ Below w.heap.size w w' := by
  have HP := Lib.hid hp
  have HO := Lib.hid ho
  have H1 := Lib.hid (And.intro h1 g1)
  have H2 := Lib.hid (And.intro h2 g2)
  have hsz := hp.size
  obtain ⟨a1, c1, rfl, z1⟩ := h1.open
  obtain ⟨a2, c2, rfl, z2⟩ := h2.open
  have Z := Lib.hid (And.intro z1 z2)
  clear hp ho h1 g1 h2 g2 z1 z2
  obtain ⟨W0, hW0⟩ : ∃ x, x = ((w.alloc (.cells pc 28)).alloc (.cells (openCells o qf qa qk) 32)).alloc (.cells #[.slice a1 l1.length c1, .slice a2 l2.length c2] 34) := ⟨_, rfl⟩
  have r0 : W0.heap[w.heap.size]? = some (.cells pc 28 (0, 0)) := by rw [hW0]; exact heap_old1 (heap_old1 (heap_new1 _ _ _ rfl))
  have r1 : W0.heap[w.heap.size + 1]? = some (.cells (openCells o qf qa qk) 32 (0, 0)) := by rw [hW0]; exact heap_old1 (heap_new1 _ _ _ (by simp))
  have r2 : W0.heap[w.heap.size + 1 + 1]? = some (.cells #[.slice a1 l1.length c1, .slice a2 l2.length c2] 34 (0, 0)) := by rw [hW0]; exact heap_new1 _ _ _ (by simp)
  have b0 : Below w.heap.size w W0 := by rw [hW0]; exact (((Below.refl _ _).alloc (Nat.le_refl _) _).alloc (by simp) _).alloc (by simp; omega) _
  have R := Lib.hid (And.intro r0 (And.intro r1 (And.intro r2 b0)))
  clear r0 r1 r2 b0
  unfold openV
  go_enter Try.func3, Try.ntmps3
  go_wp2_with fail
  rw [← hW0]
  clear hW0
  refine (c_works _).mono ?_
  rintro e w3 ⟨rfl, hb3⟩
  have hz0 := R.out.2.2.2.size
  have hz3 : w.heap.size + 3 ≤ W0.heap.size := by
    have := (Array.getElem?_eq_some_iff.1 R.out.2.2.1).1
    omega
  have B3 := Lib.hid (R.out.2.2.2.trans (hb3.mono R.out.2.2.2.size))
  have D3 := Lib.hid (hb3.mono hz3)
  have R3 := Lib.hid (And.intro (below_row hb3 R.out.1) (And.intro (below_row hb3 R.out.2.1) (below_row hb3 R.out.2.2.1)))
  have O3 := Lib.hid ((HO.out.at_.below R.out.2.2.2).below (hb3.mono (by simp)))
  clear hb3
  have c1' := row_cell R3.out.2.1
  go_wp2_with (with_reducible refine wpList_load_row rfl 28 (.tmp 3) rfl w.heap.size rfl 28 pc (0, 0) _ R3.out.1 Try.underlying28 rfl (by rw [HP.out.size]; exact i_Peer) ?_)
  refine (c_New HP.out O3.out (by have := HO.out.l1; omega) (by have := HO.out.l2; omega) (by have := HO.out.l3; omega)).mono ?_
  rintro e w4 hn
  have HN := Lib.hid hn
  clear hn c1'
  by_cases hok : newOk p o = true
  · obtain ⟨bm, rfl, hm4, hb4⟩ := Mach.of_new HN.out hok
    have hz33 := D3.out.size
    have M4 := Lib.hid (hm4.lower (Nat.le_trans hz3 hz33))
    have D4 := Lib.hid (below_trans D3.out hb4 hz3)
    have HL := Lib.hid (And.intro (show l1.length ≤ 9223372036854775807 from by have := Z.out.1; unfold maxLen at this; omega) (show l2.length ≤ 9223372036854775807 from by have := Z.out.2; unfold maxLen at this; omega))
    clear hm4 hb4 hok HN O3 B3 R3
    go_upto_block 0 with fail
    go_cut [] (fun W => ∃ m, Mach (w.heap.size + 3) (fun k => k = bm) W bm m ∧ StOk m ∧ Below (w.heap.size + 3) W0 W)
    case first =>
      have hl1 := HL.out.1
      go_wp2_with fail
      go_loopw [9] (fun i wr => ∃ k : Nat, k ≤ l1.length ∧ k ≤ 200 ∧ i = .int .i64 k ∧ ∃ m, Mach (w.heap.size + 3) (fun k => k = bm) wr bm m ∧ StOk m ∧ Below (w.heap.size + 3) W0 wr) (fun i _ => 200 - (intOf i).toNat)
      case atStart => exact ⟨0, by simp, by simp, rfl, newD p o, M4.out, ⟨by simp [newD], by simp [newD]⟩, D4.out⟩
      case round =>
        obtain ⟨k, hk, hk2, rfl, m, hm, hst, hb⟩ := hrel
        have M := Lib.hid hm
        have ST := Lib.hid hst
        have D := Lib.hid hb
        clear hm hst hb
        have c2' := row_cell (kb_row D.out R.out.2.2.1 (by omega))
        by_cases hlt : k < l1.length
        · by_cases hlt2 : k < 200
          · obtain ⟨b, off, rfl, hin⟩ := inp_at H1.out.1 R.out.2.2.2 D.out (by omega) k hlt
            have HG := Lib.hid (H1.out.2 l1[k] (List.getElem_mem hlt))
            obtain ⟨x, hx⟩ : ∃ x, x = l1[k] := ⟨_, rfl⟩
            rw [← hx] at hin HG
            obtain ⟨q0, q1, q2, q3, q4, q5, q6, q7, q8, q9, q10, q11, q12, q13, q14⟩ := inp_cells hin
            clear hin hx
            go_wp2_with fail
            refine (c_State M.out.state).mono ?_
            rintro e w5 ⟨rfl, rfl⟩
            go_wp2_with fail
            clear q0 q1 q2 q3 q4 q5 q6 q7 q8 q9 q10 q11 q12 q13 q14
            have hbm := M.out.lt
            have hwz := D.out.size
            refine (c_DoM (kd := x.kd) (o := x.o) (qf := x.qf) (qa := x.qa) (qk := x.qk) (d := x.d) M.out (fun k hk => hk ▸ hbm.2) ((HG.out.at_.at_.below R.out.2.2.2).keeps (Keeps.of_below' (A := fun k => k < w.heap.size) D.out (fun k hk => by omega)) (fun _ h => h)) (fun k hk => ⟨by omega, by omega⟩)
              (by have := HG.out.at_.l1; omega) (by have := HG.out.at_.l2; omega) (by have := HG.out.at_.l3; omega)).mono ?_
            have hso := do_ok (k := x.kd) (o := x.o) (d := x.d) ST.out
            generalize doD m x.kd x.o x.d = r at *
            obtain ⟨m', L⟩ := r
            rintro e w6 ⟨ra, rc, rfl, hm6, ho6, hk6⟩
            have M6 := Lib.hid hm6
            have D6 := Lib.hid (below_did D.out hk6 hbm.1 (by omega))
            have SO := Lib.hid hso
            have O6 := Lib.hid (acts_at (ho6.rd cod_T))
            have hL := hso.len
            simp only at hL
            clear hm6 hk6 hso ho6 c2'
            go_wp2_with fail
            go_loop [12] (fun kk => ∃ j : Nat, j ≤ L.length ∧ kk = .int .i64 j) (fun kk => L.length - (intOf kk).toNat)
            case atStart => exact ⟨0, by omega, rfl⟩
            case round =>
              obtain ⟨j, hj, rfl⟩ := hrel
              by_cases hjl : j < L.length
              · rcases O6.out with hnil | ⟨b2, off2, rfl, hc⟩
                · rw [hnil] at hjl; simp at hjl
                have hget := List.getElem?_eq_getElem hjl
                have q := hc j _ hget
                by_cases hk5 : L[j].kind = 5
                · obtain ⟨y, hy, hyk⟩ := noteF_at SO.out.note hget hk5
                  obtain ⟨hs4, hs1⟩ := SO.out.has (hasNote_at hget hk5)
                  have hj1 : j + 1 < L.length := (List.getElem?_eq_some_iff.1 hy).1
                  have q2 := hc (j + 1) y hy
                  rw [hk5] at q
                  rw [hyk] at q2
                  have hst : w6.cell? ⟨bm, 35, none⟩ = some (.int .i64 1) := by
                    have := M6.out.state
                    simp only at hs1
                    rw [hs1] at this; exact this
                  have hs4' : ¬ m.state < 4 := by omega
                  clear hs4 hs1 hy hyk hk5 hget hc
                  go_wp2_with fail
                  refine (c_State hst).mono ?_
                  rintro e w7 ⟨rfl, rfl⟩
                  go_wp2
                  go_round
                  case rel => exact ⟨j + 1, by omega, by go_num⟩
                  case measure => simp [intOf]; omega
                · obtain ⟨z, hz⟩ : ∃ z, z = L[j].kind := ⟨_, rfl⟩
                  rw [← hz] at q hk5
                  have e5 : (z == 5) = false := by simp [hk5]
                  clear hz hk5 hget hc
                  go_wp2
                  go_round
                  case rel => exact ⟨j + 1, by omega, by go_num⟩
                  case measure => simp [intOf]; omega
              · go_wp2
                exact ⟨⟨k + 1, by omega, by omega, by go_num, m', M6.out, SO.out.st, D6.out⟩, by simp [intOf]; omega⟩
          · go_wp2
            go_meet
            case rel => exact ⟨m, M.out, ST.out, D.out⟩
        · go_wp2
          go_meet
          case rel => exact ⟨m, M.out, ST.out, D.out⟩
    case rest =>
      obtain ⟨m, hm, hst, hb⟩ := hcut
      have M5 := Lib.hid hm
      have SK := Lib.hid hst
      have D5 := Lib.hid hb
      have hz5 := hb.size
      clear hm hst hb M4 D4
      go_wp2_with fail
      refine (c_in _ 2).mono ?_
      rintro e w5 ⟨rfl, hb5⟩
      have M6 := Lib.hid (M5.out.below hb5)
      have D6 := Lib.hid (below_trans D5.out hb5 (by omega))
      have hz6 := D6.out.size
      clear hb5
      go_wp2_with fail
      refine (c_inDo M6.out (fun k hk => hk ▸ M6.out.lt.2) 2).mono ?_
      have hso := do_stop (o := openNone) (d := in0) SK.out
      generalize doD m 2 openNone in0 = r at *
      obtain ⟨m', L⟩ := r
      simp only at hso
      rintro e w6 ⟨ra, rc, rfl, hm6, _, hk6⟩
      have M7 := Lib.hid hm6
      have D7 := Lib.hid (below_did D6.out hk6 M6.out.lt.1 (by omega))
      have SO := Lib.hid hso
      have hst : w6.cell? ⟨bm, 35, none⟩ = some (.int .i64 1) := by
        have := M7.out.state
        simp only at this
        rw [hso.1] at this; exact this
      have HST := Lib.hid hst
      clear hm6 hk6 hso hst M5 D5 M6 D6 SK
      go_wp2_with fail
      refine (c_State HST.out).mono ?_
      rintro e w7 ⟨rfl, rfl⟩
      go_upto_block 4 with fail
      go_cut [] (fun W => ∃ m, Mach (w.heap.size + 3) (fun k => k = bm) W bm m ∧ m.state = 1 ∧ Below (w.heap.size + 3) W0 W)
      case first =>
        have hl2 := HL.out.2
        go_wp2_with fail
        go_loopw [13] (fun i wr => ∃ k : Nat, k ≤ l2.length ∧ k ≤ 200 ∧ i = .int .i64 k ∧ ∃ m, Mach (w.heap.size + 3) (fun k => k = bm) wr bm m ∧ (m.state = 1 ∧ m.wanted = false) ∧ Below (w.heap.size + 3) W0 wr) (fun i _ => 200 - (intOf i).toNat)
        case atStart => exact ⟨0, by simp, by simp, rfl, m', M7.out, SO.out, D7.out⟩
        case round =>
          obtain ⟨k, hk, hk2, rfl, m, hm, hst, hb⟩ := hrel
          have M := Lib.hid hm
          have ST := Lib.hid hst
          have D := Lib.hid hb
          clear hm hst hb
          have c2' := row_cell (kb_row D.out R.out.2.2.1 (by omega))
          by_cases hlt : k < l2.length
          · by_cases hlt2 : k < 200
            · obtain ⟨b, off, rfl, hin⟩ := inp_at H2.out.1 R.out.2.2.2 D.out (by omega) k hlt
              have HG := Lib.hid (H2.out.2 l2[k] (List.getElem_mem hlt))
              obtain ⟨x, hx⟩ : ∃ x, x = l2[k] := ⟨_, rfl⟩
              rw [← hx] at hin HG
              obtain ⟨q0, q1, q2, q3, q4, q5, q6, q7, q8, q9, q10, q11, q12, q13, q14⟩ := inp_cells hin
              clear hin hx
              by_cases hk1 : x.kd = 1
              · have e1 : (x.kd == 1) = true := by simp [hk1]
                clear hk1 q1 q2 q3 q4 q5 q6 q7 q8 q9 q10 q11 q12 q13 q14
                go_wp2
                go_roundw
                case rel => exact ⟨k + 1, by omega, by omega, by go_num, m, M.out, ST.out, D.out⟩
                case measure => simp [intOf]; omega
              · have e1 : (x.kd == 1) = false := by simp [hk1]
                have HK1 := Lib.hid hk1
                clear hk1
                go_wp2_with fail
                clear q0 q1 q2 q3 q4 q5 q6 q7 q8 q9 q10 q11 q12 q13 q14
                have hbm := M.out.lt
                have hwz := D.out.size
                refine (c_DoM (kd := x.kd) (o := x.o) (qf := x.qf) (qa := x.qa) (qk := x.qk) (d := x.d) M.out (fun k hk => hk ▸ hbm.2) ((HG.out.at_.at_.below R.out.2.2.2).keeps (Keeps.of_below' (A := fun k => k < w.heap.size) D.out (fun k hk => by omega)) (fun _ h => h)) (fun k hk => ⟨by omega, by omega⟩)
                  (by have := HG.out.at_.l1; omega) (by have := HG.out.at_.l2; omega) (by have := HG.out.at_.l3; omega)).mono ?_
                have hso := do_idle (k := x.kd) (o := x.o) (d := x.d) ST.out.1 ST.out.2 HK1.out
                generalize doD m x.kd x.o x.d = r at *
                obtain ⟨m', L⟩ := r
                simp only at hso
                rintro e w6 ⟨ra, rc, rfl, hm6, ho6, hk6⟩
                have M6 := Lib.hid hm6
                have D6 := Lib.hid (below_did D.out hk6 hbm.1 (by omega))
                have SO := Lib.hid hso
                have hacts := acts_at (ho6.rd cod_T)
                have hst : w6.cell? ⟨bm, 35, none⟩ = some (.int .i64 1) := by
                  have := M6.out.state
                  simp only at this
                  rw [hso.1] at this; exact this
                have HST := Lib.hid hst
                clear hm6 hk6 ho6 c2' hst
                rcases hso.2.2 with rfl | rfl
                · clear hso hacts
                  go_wp2_with fail
                  refine (c_State HST.out).mono ?_
                  rintro e w7 ⟨rfl, rfl⟩
                  go_wp2
                  go_roundw
                  case rel => exact ⟨k + 1, by omega, by omega, by go_num, m', M6.out, ⟨SO.out.1, SO.out.2.1⟩, D6.out⟩
                  case measure => simp [intOf]; omega
                · rcases hacts with hnil | ⟨b2, off2, rfl, hc⟩
                  · simp at hnil
                  have q := hc 0 _ rfl
                  simp only [actC, Nat.zero_mul, Nat.add_zero] at q
                  clear hso hc
                  go_wp2_with fail
                  refine (c_State HST.out).mono ?_
                  rintro e w7 ⟨rfl, rfl⟩
                  go_wp2
                  go_roundw
                  case rel => exact ⟨k + 1, by omega, by omega, by go_num, m', M6.out, ⟨SO.out.1, SO.out.2.1⟩, D6.out⟩
                  case measure => simp [intOf]; omega
            · go_wp2
              go_meet
              case rel => exact ⟨m, M.out, ST.out.1, D.out⟩
          · go_wp2
            go_meet
            case rel => exact ⟨m, M.out, ST.out.1, D.out⟩
      case rest =>
        obtain ⟨m, hm, hst, hb⟩ := hcut
        have M5 := Lib.hid hm
        have SK := Lib.hid hst
        have D5 := Lib.hid hb
        have hz5 := hb.size
        clear hm hst hb M7 D7 HST SO
        go_wp2_with fail
        refine (c_in _ 1).mono ?_
        rintro e w8 ⟨rfl, hb5⟩
        have M6 := Lib.hid (M5.out.below hb5)
        have D6 := Lib.hid (below_trans D5.out hb5 (by omega))
        have hz6 := D6.out.size
        clear hb5
        go_wp2_with fail
        refine (c_inDo M6.out (fun k hk => hk ▸ M6.out.lt.2) 1).mono ?_
        have hso := do_start (o := openNone) (d := in0) SK.out
        generalize doD m 1 openNone in0 = r at *
        obtain ⟨m', L'⟩ := r
        simp only at hso
        rintro e w9 ⟨ra, rc, rfl, hm6, _, hk6⟩
        have D7 := Lib.hid (R.out.2.2.2.trans ((below_did D6.out hk6 M6.out.lt.1 (by omega)).mono (by omega)))
        have hst := hm6.state
        simp only at hst
        clear hk6 hm6 M5 D5 M6 D6 SK
        rcases hso with h | h
        all_goals
          rw [h] at hst
          clear h
          have HST := Lib.hid hst
          clear hst
          go_wp2_with fail
          refine (c_State HST.out).mono ?_
          rintro e wa ⟨rfl, rfl⟩
          go_wp2_with fail
          try (refine (c_State HST.out).mono ?_; rintro e wb ⟨rfl, rfl⟩; go_wp2_with fail)
          go_ret
          exact ⟨rfl, D7.out⟩
  · have hn := HN.out
    unfold NewPost at hn
    rw [if_neg hok] at hn
    obtain ⟨rfl, hb4⟩ := hn
    have B4 := Lib.hid (below_trans B3.out hb4 (Nat.le_refl _))
    clear hok hb4 HN
    go_wp2
    go_ret
    exact ⟨rfl, B4.out⟩
end Go.Proofs.Ytnbopmpbgopafaa
