/- Sets as sorted lists; their keys. Plain lists, and what slices.Compact makes of a sorted list. -/
import Derived.Test.YtlffephcbfdknaaK1
import Derived.Lib.RowBridge
set_option linter.unusedVariables false
set_option linter.unusedSimpArgs false
namespace Go.Proofs.Fil
open Go.Lib
/-- the numbers below 256 that are in l, in order -/
def nrm (l : List Nat) : List Nat := (List.range 256).filter (· ∈ l)
theorem mem_nrm {l : List Nat} {x : Nat} : x ∈ nrm l ↔ x < 256 ∧ x ∈ l := by simp [nrm]
theorem nrm_lt {l : List Nat} : ∀ x ∈ nrm l, x < 256 := fun x h => (mem_nrm.1 h).1
theorem nrm_sorted (l : List Nat) : (nrm l).Pairwise (· < ·) := List.Pairwise.filter _ List.pairwise_lt_range
theorem nrm_len (l : List Nat) : (nrm l).length ≤ 256 := by
  have := List.length_filter_le (· ∈ l) (List.range 256)
  simpa [nrm] using this
theorem nrm_congr {l m : List Nat} (h : ∀ x, x ∈ l ↔ x ∈ m) : nrm l = nrm m := by
  unfold nrm
  congr 1
  funext x
  exact decide_eq_decide.2 (h x)
theorem eq_of_sorted {α : Type} {r : α → α → Prop} (hir : ∀ a, ¬ r a a) (has : ∀ a b, r a b → r b a → False) : ∀ {l m : List α}, l.Pairwise r → m.Pairwise r → (∀ x, x ∈ l ↔ x ∈ m) → l = m := by
  intro l
  induction l with
  | nil =>
    intro m _ _ h
    cases m with
    | nil => rfl
    | cons y ys => exact absurd ((h y).2 (by simp)) (by simp)
  | cons x xs ih =>
    intro m hl hm h
    cases m with
    | nil => exact absurd ((h x).1 (by simp)) (by simp)
    | cons y ys =>
      rw [List.pairwise_cons] at hl hm
      have hxy : x = y := by
        rcases List.mem_cons.1 ((h x).1 (by simp)) with e | e
        · exact e
        · rcases List.mem_cons.1 ((h y).2 (by simp)) with e2 | e2
          · exact e2.symm
          · exact (has x y (hl.1 y e2) (hm.1 x e)).elim
      subst hxy
      congr 1
      refine ih hl.2 hm.2 (fun z => ⟨fun hz => ?_, fun hz => ?_⟩)
      · rcases List.mem_cons.1 ((h z).1 (by simp [hz])) with e | e
        · subst e; exact (hir z (hl.1 z hz)).elim
        · exact e
      · rcases List.mem_cons.1 ((h z).2 (by simp [hz])) with e | e
        · subst e; exact (hir z (hm.1 z hz)).elim
        · exact e
/-- What is compacted of a sorted row. -/
theorem compactUpTo_sorted (d : Array Int) (hs : ∀ i j, i ≤ j → j < d.size → d[i]! ≤ d[j]!) (m : Nat) (hm : m ≤ d.size) :
    (compactUpTo d m).Pairwise (· < ·) ∧ (∀ x, x ∈ compactUpTo d m ↔ ∃ j, j < m ∧ d[j]! = x) := by
  induction m with
  | zero => simp [compactUpTo]
  | succ m ih =>
    obtain ⟨ih1, ih2⟩ := ih (by omega)
    rw [compactUpTo_succ]
    by_cases hk : keeps d m = true
    · rw [if_pos hk]
      refine ⟨List.pairwise_append.2 ⟨ih1, by simp, fun x hx y hy => ?_⟩, fun x => ?_⟩
      · obtain ⟨j, hj, rfl⟩ := (ih2 x).1 hx
        rw [List.mem_singleton.1 hy]
        have h1 := hs j (m - 1) (by omega) (by omega)
        have h2 := hs (m - 1) m (by omega) (by omega)
        have h3 : d[m]! ≠ d[m - 1]! := by
          have := of_decide_eq_true (by unfold keeps at hk; exact hk)
          rcases this with h | h
          · omega
          · exact h
        omega
      · rw [List.mem_append, ih2, List.mem_singleton]
        constructor
        · rintro (⟨j, hj, e⟩ | e)
          · exact ⟨j, by omega, e⟩
          · exact ⟨m, by omega, e.symm⟩
        · rintro ⟨j, hj, e⟩
          by_cases h : j = m
          · subst h; exact .inr e.symm
          · exact .inl ⟨j, by omega, e⟩
    · rw [if_neg hk, List.append_nil]
      refine ⟨ih1, fun x => ?_⟩
      rw [ih2]
      constructor
      · rintro ⟨j, hj, e⟩; exact ⟨j, by omega, e⟩
      · rintro ⟨j, hj, e⟩
        by_cases h : j = m
        · subst h
          have h3 : ¬ (j = 0 ∨ d[j]! ≠ d[j - 1]!) := fun h4 => hk (by unfold keeps; exact decide_eq_true h4)
          refine ⟨j - 1, by omega, ?_⟩
          have h4 : ¬ d[j]! ≠ d[j - 1]! := fun h5 => h3 (.inr h5)
          rw [← e]
          exact (Decidable.not_not.1 h4).symm
        · exact ⟨j, by omega, e⟩
/-- Sorted and compacted: the set. -/
theorem compact_sorted (l : List Nat) (hl : ∀ x ∈ l, x < 256) : compact ((I l).mergeSort fun x y => decide (x ≤ y)) = I (nrm l) := by
  have hp : ((I l).mergeSort fun x y => decide (x ≤ y)).Pairwise (fun a b => decide (a ≤ b) = true) := List.pairwise_mergeSort (fun a b c h1 h2 => by simp at *; omega) (fun a b => by simp; omega) _
  obtain ⟨s, hs⟩ : ∃ s, s = (I l).mergeSort fun x y => decide (x ≤ y) := ⟨_, rfl⟩
  have hmem : ∀ x, x ∈ s ↔ x ∈ I l := fun x => by rw [hs]; exact List.mem_mergeSort
  rw [← hs] at hp ⊢
  have hle : ∀ i j, i ≤ j → j < s.toArray.size → s.toArray[i]! ≤ s.toArray[j]! := by
    intro i j hij hj
    have hj' : j < s.length := by simpa using hj
    rw [getElem!_pos s.toArray i (by simp; omega), getElem!_pos s.toArray j hj]
    simp only [List.getElem_toArray]
    rcases Nat.lt_or_ge i j with h | h
    · have := List.pairwise_iff_getElem.1 hp i j (by omega) hj' h
      simpa using this
    · have : i = j := by omega
      subst this
      exact Int.le_refl _
  obtain ⟨h1, h2⟩ := compactUpTo_sorted s.toArray hle s.length (by simp)
  refine eq_of_sorted (fun a h => by omega) (fun a b h h' => by omega) h1 ?_ (fun x => ?_)
  · unfold I
    rw [List.pairwise_map]
    exact (nrm_sorted l).imp (fun h => by omega)
  · show x ∈ compactUpTo s.toArray s.length ↔ _
    rw [h2]
    constructor
    · rintro ⟨j, hj, e⟩
      rw [getElem!_pos s.toArray j (by simpa using hj)] at e
      simp only [List.getElem_toArray] at e
      have h3 : x ∈ s := by rw [← e]; exact List.getElem_mem hj
      rw [hmem] at h3
      obtain ⟨y, hy, rfl⟩ := List.mem_map.1 h3
      exact List.mem_map.2 ⟨y, mem_nrm.2 ⟨hl y hy, hy⟩, rfl⟩
    · intro hx
      obtain ⟨y, hy, rfl⟩ := List.mem_map.1 hx
      have h3 : ((y : Nat) : Int) ∈ s := (hmem _).2 (List.mem_map.2 ⟨y, (mem_nrm.1 hy).2, rfl⟩)
      obtain ⟨j, hj, e⟩ := List.mem_iff_getElem.1 h3
      refine ⟨j, hj, ?_⟩
      rw [getElem!_pos s.toArray j (by simpa using hj)]
      simpa using e
/-! ### keys -/
def keyB (X : List Nat) : List UInt8 := X.map UInt8.ofNat
theorem keyB_inj {X Y : List Nat} (hX : ∀ x ∈ X, x < 256) (hY : ∀ x ∈ Y, x < 256) (h : keyB X = keyB Y) : X = Y := by
  have h1 := congrArg (List.map UInt8.toNat) h
  have key : ∀ Z : List Nat, (∀ x ∈ Z, x < 256) → (keyB Z).map UInt8.toNat = Z := by
    intro Z hZ
    unfold keyB
    rw [List.map_map]
    conv => rhs; rw [← List.map_id Z]
    exact List.map_congr_left (fun x hx => by have := hZ x hx; simp [UInt8.toNat_ofNat']; omega)
  rwa [key X hX, key Y hY] at h1
theorem keyB_snoc (X : List Nat) (x : Nat) : keyB (X ++ [x]) = keyB X ++ [UInt8.ofNat x] := by simp [keyB]
end Go.Proofs.Fil
