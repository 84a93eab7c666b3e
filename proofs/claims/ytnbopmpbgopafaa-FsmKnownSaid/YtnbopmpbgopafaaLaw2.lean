/- heraldlaw20: same. -/
import Derived.Test.YtnbopmpbgopafaaLaw1
namespace Go.Proofs.Ytnbopmpbgopafaa
open Go.RowKit
variable {A B : Nat → Prop}

theorem cellsT {w wr : World} {b off : Nat} {l : List ActD} (h : ∀ i x, l[i]? = some x → ∀ j u, (cT x)[j]? = some u → w.cell? ⟨b, off + i * 6 + j, none⟩ = some u)
    (hb : Below w.heap.size w wr) (k : Nat) (hk : k < l.length) : ∀ j u, (actCells l[k])[j]? = some u → wr.cell? ⟨b, off + k * 6 + j, none⟩ = some u := by
  intro j u hu
  have g := h k _ (List.getElem?_eq_getElem hk) j u (by simpa [actCells, cT] using hu)
  rw [hb.cell (p := ⟨b, off + k * 6 + j, none⟩) (World.block_lt_of_cell? w _ g)]
  exact g
set_option maxRecDepth 100000 in
theorem run_neq_T (x y : ActD) (w : World) : (binOp .neq 50 (.agg (actCells x)) (.agg (actCells y))).run Try.prog w = .ok (.bool (!(decide (x = y)))) w := by
  obtain ⟨a, b, c, d, e⟩ := x
  obtain ⟨a', b', c', d', e'⟩ := y
  have hh : decide (ActD.mk a b c d e = ActD.mk a' b' c' d' e') = (a == a' && (b == b' && (c == c' && (d == d' && e == e')))) := by
    rw [Bool.eq_iff_iff]; simp
  rw [hh, run_neq_struct]
  simp only [actCells]
  cases h1 : (a == a') <;> cases h2 : (b == b') <;> cases h3 : (c == c') <;> cases h4 : (d == d') <;> cases h5 : (e == e') <;> go_simp <;> simp_all

theorem drop_eq {l l' : List ActD} (hl : l.length = l'.length) (k : Nat) (h : k < l.length) : decide (l.drop k = l'.drop k) = (decide (l[k] = l'[k]'(hl ▸ h)) && decide (l.drop (k+1) = l'.drop (k+1))) := by
  rw [List.drop_eq_getElem_cons h, List.drop_eq_getElem_cons (i := k) (l := l') (by omega)]
  rw [Bool.eq_iff_iff]; simp only [List.cons.injEq, Bool.and_eq_true, decide_eq_true_eq]
theorem exec_neqT {o : Oper} {ρ : Operand → Value} {w : World} (x y : ActD) {p q : Operand} {c : TypeId} (hop : o.op = .binOp .neq 50 p q c)
    (hx : ρ p = .agg (actCells x)) (hy : ρ q = .agg (actCells y)) : (execOp ρ o).run Try.prog w = .ok (.value (.bool (!(decide (x = y))))) w := by
  simp only [execOp, hop, hx, hy]
  simp [eqGuard, run_neq_T x y]

set_option maxRecDepth 100000 in
set_option maxHeartbeats 1000000 in
theorem c_same {w : World} {va vb : Value} {la lb : List ActD} (ha : Rd A w 6 cT va la) (hb : Rd B w 6 cT vb lb) :
    Calls Try.prog 23 #[va, vb] w fun e w' => e = .returned (.bool (decide (la = lb))) ∧ Below w.heap.size w w' := by
  by_cases hlen : la.length = lb.length
  · rcases ha with ⟨an, rfl, rfl⟩ | ⟨b, off, c, rfl, h2, h3, h4, h5⟩
    · obtain rfl : lb = [] := by simpa using hlen.symm
      obtain ⟨aa, ac, rfl, _⟩ := hb.open
      go_enter Try.func23, Try.ntmps23
      go_wp2
      refine wp_loop_rounds 1 ?_
      rw [rounds_succ]
      go_wp2
      go_ret
      exact ⟨rfl, Below.refl _ _⟩
    rcases hb with ⟨an, rfl, rfl⟩ | ⟨b', off', c', rfl, h2', h3', h4', h5'⟩
    · have : la = [] := by simpa using hlen
      subst this
      go_enter Try.func23, Try.ntmps23
      go_wp2
      refine wp_loop_rounds 1 ?_
      rw [rounds_succ]
      go_wp2
      go_ret
      exact ⟨rfl, Below.refl _ _⟩
    unfold maxLen at h3 h3'
    have HC := Lib.hid (fun (wr : World) (hb : Below w.heap.size w wr) (k : Nat) (hk : k < la.length) => cellsT (wr := wr) h5 hb k hk)
    have HC' := Lib.hid (fun (wr : World) (hb : Below w.heap.size w wr) (k : Nat) (hk : k < lb.length) => cellsT (wr := wr) h5' hb k hk)
    have HLEN := Lib.hid hlen
    clear h5 h5' h4 h4'
    rw [← hlen] at h2' ⊢
    clear hlen
    have hn2 : ((la.length : Int) != (la.length : Int)) = false := by simp
    go_enter Try.func23, Try.ntmps23
    go_wp2
    go_loopw [5] (fun i wr => ∃ k : Nat, k ≤ la.length ∧ i = .int .i64 k ∧ Below w.heap.size w wr ∧ decide (la = lb) = decide (la.drop k = lb.drop k)) (fun i _ => la.length - (intOf i).toNat)
    case atStart => exact ⟨0, Nat.zero_le _, rfl, Below.refl _ _, by simp⟩
    case round =>
      obtain ⟨k, hk, rfl, hbel, hdec⟩ := hrel
      have HB := Lib.hid hbel
      have HD := Lib.hid hdec
      clear hdec hbel
      by_cases hlt : k < la.length
      · have hlt' : k < lb.length := by have := HLEN.out; omega
        obtain ⟨x, hx⟩ : ∃ x, x = la[k] := ⟨_, rfl⟩
        obtain ⟨y, hy⟩ : ∃ y, y = lb[k] := ⟨_, rfl⟩
        have HS := Lib.hid (drop_eq HLEN.out k hlt)
        have HX := Lib.hid (And.intro hx hy)
        have s1 := HC.out wr HB.out k hlt
        have s2 := HC'.out wr HB.out k hlt'
        rw [← hx] at s1
        rw [← hy] at s2
        clear hx hy
        go_wp2_with fail
        refine wp_region_K2 [] (fun W => (∀ j u, (actCells x)[j]? = some u → W.cell? ⟨b, off + k * 6 + j, none⟩ = some u) ∧ ∀ j u, (actCells y)[j]? = some u → W.cell? ⟨b', off' + k * 6 + j, none⟩ = some u) (fun _ => True) rfl ⟨s1, s2⟩ trivial (fun hS0 _ => ?_)
        have HS0 := Lib.hid hS0
        clear hS0 s1 s2
        refine wpAnyK_take 0 (v := ?_) rfl (by kernel_rfl) (fun _ _ _ h => h) (.inl ⟨by rfl, ?_⟩) HS0.out ?_
        rotate_left
        · intro w hS; clear hS; go_simp; with_reducible rfl
        refine wpAnyK_take 1 (v := ?_) rfl (by kernel_rfl) (fun _ _ _ h => h) (.inl ⟨by rfl, ?_⟩) HS0.out ?_
        rotate_left
        · intro w hS; clear hS; go_simp; with_reducible rfl
        refine wpAnyK_take 2 (v := ?_) rfl (by kernel_rfl) (fun _ _ _ h => h) (.inl ⟨by rfl, ?_⟩) HS0.out ?_
        rotate_left
        · intro w hS; clear hS; go_simp; with_reducible rfl
        refine wpAnyK_take 3 (v := .agg (actCells x)) rfl (by kernel_rfl) (fun _ _ _ h => h) (.inl ⟨by rfl, fun w hS => ?_⟩) HS0.out ?_
        · have g0 := hS.1 0 _ rfl; have g1 := hS.1 1 _ rfl; have g2 := hS.1 2 _ rfl; have g3 := hS.1 3 _ rfl; have g4 := hS.1 4 _ rfl; have g5 := hS.1 5 _ rfl
          clear hS; simp only [Nat.add_zero] at g0; go_simp
        refine wpAnyK_take 4 (v := ?_) rfl (by kernel_rfl) (fun _ _ _ h => h) (.inl ⟨by rfl, ?_⟩) HS0.out ?_
        rotate_left
        · intro w hS; clear hS; go_simp; with_reducible rfl
        refine wpAnyK_take 5 (v := ?_) rfl (by kernel_rfl) (fun _ _ _ h => h) (.inl ⟨by rfl, ?_⟩) HS0.out ?_
        rotate_left
        · intro w hS; clear hS; go_simp; with_reducible rfl
        refine wpAnyK_take 6 (v := ?_) rfl (by kernel_rfl) (fun _ _ _ h => h) (.inl ⟨by rfl, ?_⟩) HS0.out ?_
        rotate_left
        · intro w hS; clear hS; go_simp; with_reducible rfl
        refine wpAnyK_take 7 (v := .agg (actCells y)) rfl (by kernel_rfl) (fun _ _ _ h => h) (.inl ⟨by rfl, fun w hS => ?_⟩) HS0.out ?_
        · have g0 := hS.2 0 _ rfl; have g1 := hS.2 1 _ rfl; have g2 := hS.2 2 _ rfl; have g3 := hS.2 3 _ rfl; have g4 := hS.2 4 _ rfl; have g5 := hS.2 5 _ rfl
          clear hS; simp only [Nat.add_zero] at g0; go_simp
        refine wpAnyK_take 8 (v := .bool (!(decide (x = y)))) rfl (by kernel_rfl) (fun _ _ _ h => h) (.inl ⟨by rfl, fun w hS => ?_⟩) HS0.out ?_
        · exact exec_neqT x y (p := .tmp 20) (q := .tmp 24) (c := 50) rfl (by go_simp) (by go_simp)
        refine wpAnyK_done (by kernel_rfl) ?_
        go_simp
        go_wp2
        · have hxy : (!(decide (x = y))) = true := by assumption
          have hd : decide (x = y) = false := by simpa using hxy
          go_ret
          exact ⟨ret_bool (by rw [HD.out, HS.out, ← HX.out.1, ← HX.out.2, hd]; rfl), HB.out.drew⟩
        · have hxy : (!(decide (x = y))) = false := by assumption
          have hd : decide (x = y) = true := by simpa using hxy
          exact ⟨⟨k + 1, by omega, by go_num, HB.out.drew, by rw [HD.out, HS.out, ← HX.out.1, ← HX.out.2, hd]; rfl⟩, by simp [intOf]; omega⟩
      · have hge : la.length ≤ k := by omega
        go_wp2
        go_ret
        exact ⟨ret_bool (by rw [HD.out, List.drop_eq_nil_of_le (by omega), List.drop_eq_nil_of_le (by have := HLEN.out; omega)]; rfl), HB.out⟩
  · have hd : decide (la = lb) = false := by simp; intro h; exact hlen (by rw [h])
    obtain ⟨aa, ac, rfl, _⟩ := ha.open
    obtain ⟨ba, bc, rfl, _⟩ := hb.open
    have hne : ((la.length : Int) != (lb.length : Int)) = true := by simp; omega
    have HDD := Lib.hid hd
    clear hd hlen ha hb
    go_enter Try.func23, Try.ntmps23
    go_wp2
    go_ret
    exact ⟨ret_bool HDD.out.symm, Below.refl _ _⟩
end Go.Proofs.Ytnbopmpbgopafaa
