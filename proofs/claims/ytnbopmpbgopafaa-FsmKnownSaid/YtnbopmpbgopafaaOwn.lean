/- Slices that a call made itself: Ow; slices.Clone. -/
import Derived.Test.YtnbopmpbgopafaaCheck
import Derived.Laws.OwnMore
namespace Go.Proofs.Ytnbopmpbgopafaa
open Go.RowKit
variable {A : Nat → Prop}

/-- A code of elements: each has sz cells, each of one cell. -/
structure Cod {τ : Type} (sz : Nat) (enc : τ → List Value) : Prop where
  len : ∀ x, (enc x).length = sz
  one : ∀ x u, u ∈ enc x → u.oneCell' = true
  pos : 0 < sz
theorem cod_I : Cod 1 cI := ⟨fun _ => rfl, fun x u h => by simp [cI] at h; subst h; rfl, by decide⟩
theorem cod_A : Cod 3 cA := ⟨fun _ => rfl, fun x u h => by simp [cA] at h; rcases h with rfl | rfl | rfl <;> rfl, by decide⟩
theorem cod_R : Cod 2 cR := ⟨fun _ => rfl, fun x u h => by simp [cR] at h; rcases h with rfl | rfl <;> rfl, by decide⟩

theorem flat_len {τ : Type} {sz : Nat} {enc : τ → List Value} (hc : ∀ x, (enc x).length = sz) (l : List τ) : (l.flatMap enc).length = l.length * sz := by
  induction l with
  | nil => simp
  | cons x l ih => simp [List.flatMap_cons, ih, hc, Nat.add_mul]; omega
theorem flat_get {τ : Type} {sz : Nat} {enc : τ → List Value} (hc : ∀ x, (enc x).length = sz) (l : List τ) (i : Nat) (x : τ) (hx : l[i]? = some x) (j : Nat) (hj : j < sz) :
    (l.flatMap enc)[i * sz + j]? = (enc x)[j]? := by
  induction l generalizing i with
  | nil => simp at hx
  | cons y l ih =>
    rw [List.flatMap_cons]
    cases i with
    | zero =>
      simp at hx; subst hx
      rw [List.getElem?_append_left (by rw [hc]; omega)]; simp
    | succ i =>
      simp at hx
      rw [List.getElem?_append_right (by rw [hc, Nat.add_mul]; omega), hc]
      have : (i + 1) * sz + j - sz = i * sz + j := by rw [Nat.add_mul]; omega
      rw [this]; exact ih i hx
theorem flat_inv {τ : Type} {sz : Nat} {enc : τ → List Value} (hc : ∀ x, (enc x).length = sz) (hs : 0 < sz) (l : List τ) (k : Nat) (u : Value) (h : (l.flatMap enc)[k]? = some u) :
    ∃ i x j, l[i]? = some x ∧ (enc x)[j]? = some u ∧ k = i * sz + j := by
  have hk : k < l.length * sz := by
    have := (List.getElem?_eq_some_iff.1 h).1
    rwa [flat_len hc] at this
  have hi : k / sz < l.length := (Nat.div_lt_iff_lt_mul hs).2 hk
  have hm := Nat.mod_lt k hs
  have e : k = k / sz * sz + k % sz := by rw [Nat.mul_comm]; exact (Nat.div_add_mod k sz).symm
  refine ⟨k / sz, l[k / sz], k % sz, List.getElem?_eq_getElem hi, ?_, e⟩
  rw [← flat_get hc l (k / sz) _ (List.getElem?_eq_getElem hi) _ hm, ← e]; exact h
theorem flat_one {τ : Type} {sz : Nat} {enc : τ → List Value} (hc : Cod sz enc) (l : List τ) : ∀ u ∈ l.flatMap enc, u.oneCell' = true := by
  intro u hu
  obtain ⟨x, _, h⟩ := List.mem_flatMap.1 hu
  exact hc.one x u h

theorem addr_add (b off k : Nat) : (⟨b, off, none⟩ : Addr).add k = ⟨b, off + k, none⟩ := by
  unfold Addr.add; split <;> simp_all

theorem Rd.flat {τ : Type} {w : World} {sz : Nat} {enc : τ → List Value} {l : List τ} {b off : Nat} (hc : Cod sz enc)
    (h : ∀ i x, l[i]? = some x → ∀ j u, (enc x)[j]? = some u → w.cell? ⟨b, off + i * sz + j, none⟩ = some u) :
    ∀ j u, (l.flatMap enc)[j]? = some u → w.cell? ((⟨b, off, none⟩ : Addr).add j) = some u := by
  intro k u hk
  obtain ⟨i, x, j, hx, hu, rfl⟩ := flat_inv hc.len hc.pos l k u hk
  rw [addr_add, ← Nat.add_assoc]; exact h i x hx j u hu

theorem Rd.src {τ : Type} {w : World} {sz : Nat} {enc : τ → List Value} {v : Value} {l : List τ} (hc : Cod sz enc) (h : Rd A w sz enc v l) :
    (v = .slice none 0 0 ∧ l = []) ∨ ∃ ad c, v = .slice (some ad) l.length c ∧ l.length ≤ c ∧ c ≤ maxLen ∧ ∀ j u, (l.flatMap enc)[j]? = some u → w.cell? (ad.add j) = some u := by
  rcases h with ⟨an, rfl, rfl⟩ | ⟨b, off, c, rfl, h2, h3, _, h5⟩
  · cases an with
    | none => exact .inl ⟨rfl, rfl⟩
    | some ad => exact .inr ⟨ad, 0, rfl, Nat.le_refl _, by simp [maxLen], by simp⟩
  · exact .inr ⟨_, c, rfl, h2, h3, Rd.flat hc h5⟩

/-- v is a row of the call's own, from block B on: its elements are l. -/
def Ow {τ : Type} (B : Nat) (w : World) (e : TypeId) (sz : Nat) (enc : τ → List Value) (v : Value) (l : List τ) : Prop :=
  w.ownsRow B e sz v l.length (l.flatMap enc)
theorem Ow.rd {τ : Type} {B : Nat} {w : World} {e : TypeId} {sz : Nat} {enc : τ → List Value} {v : Value} {l : List τ} (hc : Cod sz enc) (h : Ow B w e sz enc v l) :
    Rd (fun b => B ≤ b ∧ b < w.heap.size ∧ v.ownBlock = some b) w sz enc v l := by
  obtain ⟨hl, ⟨rfl, hn⟩ | ⟨g, cap, cur, rfl, hb, hg, hnc, hcm, hcs, ht⟩⟩ := h
  · exact .inl ⟨none, rfl, List.eq_nil_of_length_eq_zero hn⟩
  · refine .inr ⟨g, 0, cap, rfl, hnc, hcm, .inr ⟨hb, (Array.getElem?_eq_some_iff.1 hg).1, rfl⟩, fun i x hx j u hu => ?_⟩
    have hj : j < sz := by have := (List.getElem?_eq_some_iff.1 hu).1; rwa [hc.len] at this
    have hi : i < l.length := (List.getElem?_eq_some_iff.1 hx).1
    have e1 := flat_get hc.len l i x hx j hj
    rw [← ht, hu, List.getElem?_take] at e1
    split at e1
    · rw [cell_of_row w g (0 + i * sz + j) cur e (0, 0) hg, Nat.zero_add, ← e1]; simp
    · simp at e1
theorem Ow.lt {τ : Type} {B : Nat} {w : World} {e : TypeId} {sz : Nat} {enc : τ → List Value} {v : Value} {l : List τ} (h : Ow B w e sz enc v l) : ∀ k, v.ownBlock = some k → B ≤ k ∧ k < w.heap.size := World.ownsRow.lt h
theorem Ow.shape {τ : Type} {B : Nat} {w : World} {e : TypeId} {sz : Nat} {enc : τ → List Value} {v : Value} {l : List τ} (h : Ow B w e sz enc v l) : ∃ a c, v = .slice a l.length c := by
  obtain ⟨_, ⟨rfl, hn⟩ | ⟨g, cap, cur, rfl, _⟩⟩ := h
  · exact ⟨none, 0, by rw [hn]⟩
  · exact ⟨_, _, rfl⟩
theorem Ow.mono {τ : Type} {B B' : Nat} {w : World} {e : TypeId} {sz : Nat} {enc : τ → List Value} {v : Value} {l : List τ} (h : Ow B w e sz enc v l) (hB : B' ≤ B) : Ow B' w e sz enc v l := by
  obtain ⟨hl, h | ⟨g, cap, cur, hv, hb, r⟩⟩ := h
  · exact ⟨hl, .inl h⟩
  · exact ⟨hl, .inr ⟨g, cap, cur, hv, Nat.le_trans hB hb, r⟩⟩
theorem Ow.keeps {τ : Type} {B : Nat} {A' : Nat → Prop} {w w' : World} {e : TypeId} {sz : Nat} {enc : τ → List Value} {v : Value} {l : List τ} (h : Ow B w e sz enc v l) (hk : Keeps A' w w')
    (hA : ∀ k, v.ownBlock = some k → A' k) : Ow B w' e sz enc v l := by
  obtain ⟨hl, h | ⟨g, cap, cur, rfl, hb, hg, r⟩⟩ := h
  · exact ⟨hl, .inl h⟩
  · exact ⟨hl, .inr ⟨g, cap, cur, rfl, hb, (hk.block g (Array.getElem?_eq_some_iff.1 hg).1 (hA g rfl)).trans hg, r⟩⟩
theorem Ow.below {τ : Type} {B : Nat} {w w' : World} {e : TypeId} {sz : Nat} {enc : τ → List Value} {v : Value} {l : List τ} (h : Ow B w e sz enc v l) (hk : Below w.heap.size w w') : Ow B w' e sz enc v l :=
  h.keeps (A' := fun _ => True) (Keeps.of_below hk) (fun _ _ => trivial)

theorem i_I : (Try.prog.info? 3).map (fun i => (i.zero, i.size, i.bytes)) = some (some (.int .i64 0), 1, 8) := by kernel_rfl
theorem i_A : (Try.prog.info? 99).map (fun i => (i.zero, i.size, i.bytes)) = some (some (.agg #[.int .i64 0, .bool false, .bool false]), 3, 16) := by kernel_rfl
theorem i_R : (Try.prog.info? 108).map (fun i => (i.zero, i.size, i.bytes)) = some (some (.agg #[.int .i64 0, .bool false]), 2, 16) := by kernel_rfl

theorem news_below {w w' : World} {news : List Value} {ad : Addr} (h : ∀ j u, news[j]? = some u → w.cell? (ad.add j) = some u) (hb : Below w.heap.size w w') :
    ∀ j u, news[j]? = some u → w'.cell? (ad.add j) = some u := fun j u hu => by
  rw [hb.cell (World.block_lt_of_cell? w _ (h j u hu))]; exact h j u hu
theorem news_new {w : World} {cs : Array Value} {e : TypeId} {l : List Value} (h : cs = l.toArray) : ∀ j u, l[j]? = some u → (w.alloc (.cells cs e)).cell? ((⟨w.heap.size, 0, none⟩ : Addr).add j) = some u := fun j u hu => by
  subst h
  rw [addr_add, Nat.zero_add, row_cell (heap_new1 w _ _ rfl)]; simpa using hu
theorem below_grown {w w' : World} {B : Nat} {o : Obj} {v : Value} (hg : (w.alloc o).grownBy w' v.ownBlock) (hv : ∀ k, v.ownBlock = some k → B ≤ k) (hB : B ≤ w.heap.size) : Below B w w' :=
  ((Below.refl B w).alloc hB o).grown hg (by simp; omega) hv

theorem c_CloneI {w : World} {v : Value} {l : List Int} (hr : Rd A w 1 cI v l) (hlen : l.length * 8 ≤ 140737488355328) :
    Calls Try.prog 55 #[v] w fun e w' => ∃ a' c', e = .returned (.slice a' l.length c') ∧ Ow w.heap.size w' 3 1 cI (.slice a' l.length c') l ∧ Below w.heap.size w w' := by
  obtain ⟨i0, hi, hz0, hz1, hz2⟩ := info_parts i_I
  rcases hr.src cod_I with ⟨rfl, rfl⟩ | ⟨ad, c, rfl, h2, h3, h5⟩
  · go_enter Try.func55, Try.ntmps55
    have hq := fun (w : World) (a : Option Addr) (n c : Nat) => Lib.run_eql_slice_nil (P := Try.prog) w 26 3 a n c 0 0 Try.underlying26
    go_wp2
    go_ret
    exact ⟨none, 0, rfl, World.ownsRow_nil _ _ _ _, Below.refl _ _⟩
  · go_enter Try.func55, Try.ntmps55
    have hq := fun (w : World) (a : Option Addr) (n c : Nat) => Lib.run_eql_slice_nil (P := Try.prog) w 26 3 a n c 0 0 Try.underlying26
    have HF := Lib.hid h5
    clear h5
    go_wp2_with (at_builtin; refine wpList_append_own _ rfl _ _ 26 rfl w.heap.size 3 i0 (.int .i64 0) 1 8 Try.underlying26 hi hz0 hz1 hz2 rfl (by decide) _ 0 [] rfl ?own ad l.length c (l.flatMap cI) rfl ?hl ?hnews ?h1 ?h63 ?hbytes ?hbase ?_)
    case own => exact World.ownsRow_made w #[] 0 (Nat.le_refl _) (by decide) rfl
    case hl => exact flat_len cod_I.len l
    case hnews => exact news_below HF.out ((Below.refl _ _).alloc (Nat.le_refl _) _)
    case h1 => exact flat_one cod_I l
    case h63 => simp only [maxLen] at h3 ⊢; omega
    case hbytes => simpa using hlen
    case hbase => simp
    intro v' w1 hown hgrow _
    have HO := Lib.hid hown
    have HG := Lib.hid hgrow
    clear hown hgrow
    go_wp2
    go_ret
    have HO2 : Ow w.heap.size w1 3 1 cI v' l := by have := HO.out; simpa [Ow] using this
    obtain ⟨a', c', hv'⟩ := HO2.shape
    rw [hv'] at HO2 ⊢
    exact ⟨a', c', rfl, HO2, below_grown HG.out (by simp [Value.ownBlock]) (Nat.le_refl _)⟩

theorem c_CloneA {w : World} {v : Value} {l : List AddD} (hr : Rd A w 3 cA v l) (hlen : l.length * 16 ≤ 140737488355328) :
    Calls Try.prog 56 #[v] w fun e w' => ∃ a' c', e = .returned (.slice a' l.length c') ∧ Ow w.heap.size w' 99 3 cA (.slice a' l.length c') l ∧ Below w.heap.size w w' := by
  obtain ⟨i0, hi, hz0, hz1, hz2⟩ := info_parts i_A
  rcases hr.src cod_A with ⟨rfl, rfl⟩ | ⟨ad, c, rfl, h2, h3, h5⟩
  · go_enter Try.func56, Try.ntmps56
    have hq := fun (w : World) (a : Option Addr) (n c : Nat) => Lib.run_eql_slice_nil (P := Try.prog) w 29 99 a n c 0 0 Try.underlying29
    go_wp2
    go_ret
    exact ⟨none, 0, rfl, World.ownsRow_nil _ _ _ _, Below.refl _ _⟩
  · go_enter Try.func56, Try.ntmps56
    have hq := fun (w : World) (a : Option Addr) (n c : Nat) => Lib.run_eql_slice_nil (P := Try.prog) w 29 99 a n c 0 0 Try.underlying29
    have HF := Lib.hid h5
    clear h5
    go_wp2_with (at_builtin; refine wpList_append_own _ rfl _ _ 29 rfl w.heap.size 99 i0 (.agg #[.int .i64 0, .bool false, .bool false]) 3 16 Try.underlying29 hi hz0 hz1 hz2 rfl (by decide) _ 0 [] rfl ?own ad l.length c (l.flatMap cA) rfl ?hl ?hnews ?h1 ?h63 ?hbytes ?hbase ?_)
    case own => exact World.ownsRow_made w #[] 0 (Nat.le_refl _) (by decide) rfl
    case hl => exact flat_len cod_A.len l
    case hnews => exact news_below HF.out ((Below.refl _ _).alloc (Nat.le_refl _) _)
    case h1 => exact flat_one cod_A l
    case h63 => simp only [maxLen] at h3 ⊢; omega
    case hbytes => simpa using hlen
    case hbase => simp
    intro v' w1 hown hgrow _
    have HO := Lib.hid hown
    have HG := Lib.hid hgrow
    clear hown hgrow
    go_wp2
    go_ret
    have HO2 : Ow w.heap.size w1 99 3 cA v' l := by have := HO.out; simpa [Ow] using this
    obtain ⟨a', c', hv'⟩ := HO2.shape
    rw [hv'] at HO2 ⊢
    exact ⟨a', c', rfl, HO2, below_grown HG.out (by simp [Value.ownBlock]) (Nat.le_refl _)⟩

theorem c_CloneR {w : World} {v : Value} {l : List RestD} (hr : Rd A w 2 cR v l) (hlen : l.length * 16 ≤ 140737488355328) :
    Calls Try.prog 57 #[v] w fun e w' => ∃ a' c', e = .returned (.slice a' l.length c') ∧ Ow w.heap.size w' 108 2 cR (.slice a' l.length c') l ∧ Below w.heap.size w w' := by
  obtain ⟨i0, hi, hz0, hz1, hz2⟩ := info_parts i_R
  rcases hr.src cod_R with ⟨rfl, rfl⟩ | ⟨ad, c, rfl, h2, h3, h5⟩
  · go_enter Try.func57, Try.ntmps57
    have hq := fun (w : World) (a : Option Addr) (n c : Nat) => Lib.run_eql_slice_nil (P := Try.prog) w 30 108 a n c 0 0 Try.underlying30
    go_wp2
    go_ret
    exact ⟨none, 0, rfl, World.ownsRow_nil _ _ _ _, Below.refl _ _⟩
  · go_enter Try.func57, Try.ntmps57
    have hq := fun (w : World) (a : Option Addr) (n c : Nat) => Lib.run_eql_slice_nil (P := Try.prog) w 30 108 a n c 0 0 Try.underlying30
    have HF := Lib.hid h5
    clear h5
    go_wp2_with (at_builtin; refine wpList_append_own _ rfl _ _ 30 rfl w.heap.size 108 i0 (.agg #[.int .i64 0, .bool false]) 2 16 Try.underlying30 hi hz0 hz1 hz2 rfl (by decide) _ 0 [] rfl ?own ad l.length c (l.flatMap cR) rfl ?hl ?hnews ?h1 ?h63 ?hbytes ?hbase ?_)
    case own => exact World.ownsRow_made w #[] 0 (Nat.le_refl _) (by decide) rfl
    case hl => exact flat_len cod_R.len l
    case hnews => exact news_below HF.out ((Below.refl _ _).alloc (Nat.le_refl _) _)
    case h1 => exact flat_one cod_R l
    case h63 => simp only [maxLen] at h3 ⊢; omega
    case hbytes => simpa using hlen
    case hbase => simp
    intro v' w1 hown hgrow _
    have HO := Lib.hid hown
    have HG := Lib.hid hgrow
    clear hown hgrow
    go_wp2
    go_ret
    have HO2 : Ow w.heap.size w1 108 2 cR v' l := by have := HO.out; simpa [Ow] using this
    obtain ⟨a', c', hv'⟩ := HO2.shape
    rw [hv'] at HO2 ⊢
    exact ⟨a', c', rfl, HO2, below_grown HG.out (by simp [Value.ownBlock]) (Nat.le_refl _)⟩
end Go.Proofs.Ytnbopmpbgopafaa
