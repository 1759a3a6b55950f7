/- What Autos answers. Plain. -/
import Derived.Test.YtlffephcbfdknaaKChk
import Derived.Test.YtlffephcbfdknaaPSamex3
set_option linter.unusedVariables false
set_option linter.unusedSimpArgs false
namespace Go.Proofs.Ytlffephcbfdknaa.Chk
open Go.RowKit Go.Proofs.YtlffephcbfdknaaW.PrintWords Go.Proofs.YtlffephcbfdknaaW.PrintMore Go.Proofs.YtlffephcbfdknaaW.PrintLast Go.Proofs.Fil Go.Proofs.Ytlffephcbfdknaa.PSame

/-! ### Autos -/
theorem ints0_spec (a b : List Int) (hl : a.length = b.length) (hb : a.length < 9223372036854775807) (m : Nat) : ∀ (j : Nat), a.length - j = m → j ≤ a.length → ∃ k r, filbertsame_Ints.l0 k a b j = some r ∧ (r = true ↔ a.drop j = b.drop j) := by
  induction m with
  | zero =>
    intro j hj hjl
    refine ⟨1, true, ?_, ?_⟩
    · simp only [filbertsame_Ints.l0]; rw [if_neg (by omega)]
    · rw [List.drop_eq_nil_of_le (by omega), List.drop_eq_nil_of_le (by omega)]; simp
  | succ m ih =>
    intro j hj hjl
    have h1 : j < a.length := by omega
    have h2 : j < b.length := by omega
    obtain ⟨k, r, hk, hr⟩ := ih (j + 1) (by omega) (by omega)
    rw [List.drop_eq_getElem_cons h1, List.drop_eq_getElem_cons h2]
    by_cases e : a[j] = b[j]
    · refine ⟨k + 1, r, ?_, ?_⟩
      · simp only [filbertsame_Ints.l0]
        rw [if_pos (by omega), if_pos (by omega), if_pos (by omega), rd_nat, rd_nat, getD_at h1, getD_at h2, if_pos e, wrap_nat (by omega), hk]
      · rw [hr, List.cons.injEq]; exact ⟨fun h => ⟨e, h⟩, fun h => h.2⟩
    · refine ⟨1, false, ?_, ?_⟩
      · simp only [filbertsame_Ints.l0]
        rw [if_pos (by omega), if_pos (by omega), if_pos (by omega), rd_nat, rd_nat, getD_at h1, getD_at h2, if_neg e]
      · exact ⟨fun h => (by cases h), fun h => (e (List.cons.inj h).1).elim⟩
theorem ints_spec (a b : List Int) (hb : a.length < 9223372036854775807) : ∃ k r, filbertsame_Ints.f k a b = some r ∧ (r = true ↔ a = b) := by
  by_cases hl : a.length = b.length
  · obtain ⟨k, r, hk, hr⟩ := ints0_spec a b hl hb _ 0 rfl (Nat.zero_le _)
    refine ⟨k, r, ?_, by rw [hr, List.drop_zero, List.drop_zero]⟩
    unfold filbertsame_Ints.f
    rw [if_pos (by omega)]
    exact hk
  · refine ⟨0, false, ?_, ?_⟩
    · unfold filbertsame_Ints.f
      rw [if_neg (by omega)]
    · constructor
      · intro h; cases h
      · rintro rfl; exact (hl rfl).elim
theorem rdL1_nat (m : List (List Int)) (j : Nat) : rd_L1 m (j : Int) = m.getD j [] := by simp [rd_L1]
theorem lists0_spec (a b : List (List Int)) (hl : a.length = b.length) (hb : a.length < 9223372036854775807) (hrow : ∀ r ∈ a, r.length < 9223372036854775807) (m : Nat) : ∀ (j : Nat), a.length - j = m → j ≤ a.length → ∃ k r, filbertsame_Lists.l0 k a b j = some r ∧ (r = true ↔ a.drop j = b.drop j) := by
  induction m with
  | zero =>
    intro j hj hjl
    refine ⟨1, true, ?_, ?_⟩
    · simp only [filbertsame_Lists.l0]; rw [if_neg (by omega)]
    · rw [List.drop_eq_nil_of_le (by omega), List.drop_eq_nil_of_le (by omega)]; simp
  | succ m ih =>
    intro j hj hjl
    have h1 : j < a.length := by omega
    have h2 : j < b.length := by omega
    obtain ⟨k, r, hk, hr⟩ := ih (j + 1) (by omega) (by omega)
    obtain ⟨k2, r2, hk2, hr2⟩ := ints_spec a[j] b[j] (hrow _ (List.getElem_mem h1))
    have hk' := leO_up (fun k => filbertsame_Lists.mono_l k a b ((j + 1 : Nat) : Int)) (Nat.le_max_left k k2) hk
    have hk2' := leO_up (fun k => filbertsame_Ints.mono a[j] b[j] k) (Nat.le_max_right k k2) hk2
    rw [List.drop_eq_getElem_cons h1, List.drop_eq_getElem_cons h2]
    refine ⟨max k k2 + 1, if r2 = true then r else false, ?_, ?_⟩
    · simp only [filbertsame_Lists.l0]
      rw [if_pos (by omega), if_pos (by omega), if_pos (by omega), rdL1_nat, rdL1_nat, getD_at h1, getD_at h2, hk2']
      simp only [Option.bind_some]
      rw [wrap_nat (by omega), hk']
      cases r2 <;> rfl
    · cases r2 with
      | true => rw [if_pos rfl, hr, List.cons.injEq]; exact ⟨fun h => ⟨hr2.1 rfl, h⟩, fun h => h.2⟩
      | false => exact ⟨fun h => (by cases h), fun h => by have := hr2.2 (List.cons.inj h).1; cases this⟩
theorem lists_spec (a b : List (List Int)) (hb : a.length < 9223372036854775807) (hrow : ∀ r ∈ a, r.length < 9223372036854775807) : ∃ k r, filbertsame_Lists.f k a b = some r ∧ (r = true ↔ a = b) := by
  by_cases hl : a.length = b.length
  · obtain ⟨k, r, hk, hr⟩ := lists0_spec a b hl hb hrow _ 0 rfl (Nat.zero_le _)
    refine ⟨k, r, ?_, by rw [hr, List.drop_zero, List.drop_zero]⟩
    unfold filbertsame_Lists.f
    rw [if_pos (by omega)]
    exact hk
  · refine ⟨0, false, ?_, ?_⟩
    · unfold filbertsame_Lists.f
      rw [if_neg (by omega)]
    · constructor
      · intro h; cases h
      · rintro rfl; exact (hl rfl).elim
theorem autos0_spec (a b : List Bool) (hl : a.length = b.length) (hb : a.length < 9223372036854775807) (x0 x1 : Int) (x2 : List (List Int)) (y0 y1 : Int) (y2 : List (List Int)) (m : Nat) : ∀ (j : Nat), a.length - j = m → j ≤ a.length → ∃ k r, filbertsame_Autos.l0 k j x0 x1 x2 a y0 y1 y2 b = some r ∧ (r = true ↔ a.drop j = b.drop j) := by
  induction m with
  | zero =>
    intro j hj hjl
    refine ⟨1, true, ?_, ?_⟩
    · simp only [filbertsame_Autos.l0]; rw [if_neg (by omega)]
    · rw [List.drop_eq_nil_of_le (by omega), List.drop_eq_nil_of_le (by omega)]; simp
  | succ m ih =>
    intro j hj hjl
    have h1 : j < a.length := by omega
    have h2 : j < b.length := by omega
    obtain ⟨k, r, hk, hr⟩ := ih (j + 1) (by omega) (by omega)
    rw [List.drop_eq_getElem_cons h1, List.drop_eq_getElem_cons h2]
    have e1 : rdOf false a (j : Int) = a[j] := by unfold rdOf; rw [Int.toNat_natCast, getD_at h1]
    have e2 : rdOf false b (j : Int) = b[j] := by unfold rdOf; rw [Int.toNat_natCast, getD_at h2]
    by_cases e : a[j] = b[j]
    · refine ⟨k + 1, r, ?_, ?_⟩
      · simp only [filbertsame_Autos.l0]
        rw [if_pos (by omega), if_pos (by omega), if_pos (by omega), e1, e2, if_neg (by simp [e]), wrap_nat (by omega), hk]
      · rw [hr, List.cons.injEq]; exact ⟨fun h => ⟨e, h⟩, fun h => h.2⟩
    · refine ⟨1, false, ?_, ?_⟩
      · simp only [filbertsame_Autos.l0]
        rw [if_pos (by omega), if_pos (by omega), if_pos (by omega), e1, e2, if_pos (by simp [e])]
      · exact ⟨fun h => (by cases h), fun h => (e (List.cons.inj h).1).elim⟩
theorem autos_spec (x0 x1 : Int) (x2 : List (List Int)) (x3 : List Bool) (y0 y1 : Int) (y2 : List (List Int)) (y3 : List Bool) (h2 : x2.length < 9223372036854775807) (hrow : ∀ r ∈ x2, r.length < 9223372036854775807) (h3 : x3.length < 9223372036854775807) :
    ∃ k r, filbertsame_Autos.f k x0 x1 x2 x3 y0 y1 y2 y3 = some r ∧ (r = true ↔ x0 = y0 ∧ x1 = y1 ∧ x2 = y2 ∧ x3 = y3) := by
  obtain ⟨k, r, hk, hr⟩ := lists_spec x2 y2 h2 hrow
  have no : ∀ k', 1 ≤ k' → filbertsame_Autos.j0 k' true x0 x1 x2 x3 y0 y1 y2 y3 = some false := by
    intro k' hk'
    obtain ⟨k', rfl⟩ : ∃ q, k' = q + 1 := ⟨k' - 1, by omega⟩
    simp only [filbertsame_Autos.j0, if_true]
  have hk1 := leO_up (fun k => filbertsame_Lists.mono x2 y2 k) (Nat.le_max_left k 1) hk
  by_cases e0 : x0 = y0
  · by_cases e1 : x1 = y1
    · cases r with
      | true =>
        by_cases hl : x3.length = y3.length
        · obtain ⟨k2, r2, hk2, hr2⟩ := autos0_spec x3 y3 hl h3 x0 x1 x2 y0 y1 y2 _ 0 rfl (Nat.zero_le _)
          refine ⟨max k (k2 + 1), r2, ?_, ?_⟩
          · unfold filbertsame_Autos.f
            rw [leO_up (fun k => filbertsame_Lists.mono x2 y2 k) (Nat.le_max_left k (k2 + 1)) hk]
            simp only [Option.bind_some]
            rw [if_pos e0, if_pos e1, if_pos trivial, show ((x3.length : Int) != (y3.length : Int)) = false by simp [hl]]
            have h4 : filbertsame_Autos.j0 (k2 + 1) false x0 x1 x2 x3 y0 y1 y2 y3 = some r2 := by
              simp only [filbertsame_Autos.j0]
              rw [if_neg (by decide)]
              exact hk2
            exact leO_up (fun k => (filbertsame_Autos.mono_l k).1 _ _ _ _ _ _ _ _ _) (Nat.le_max_right k (k2 + 1)) h4
          · rw [hr2, List.drop_zero, List.drop_zero]
            exact ⟨fun h => ⟨e0, e1, hr.1 rfl, h⟩, fun h => h.2.2.2⟩
        · refine ⟨max k 1, false, ?_, ⟨fun h => (by cases h), fun h => (hl (by rw [h.2.2.2])).elim⟩⟩
          unfold filbertsame_Autos.f
          rw [hk1]
          simp only [Option.bind_some]
          rw [if_pos e0, if_pos e1, if_pos trivial, show ((x3.length : Int) != (y3.length : Int)) = true by simp; omega]
          exact no _ (Nat.le_max_right k 1)
      | false =>
        refine ⟨max k 1, false, ?_, ⟨fun h => (by cases h), fun h => (by have := hr.2 h.2.2.1; cases this)⟩⟩
        unfold filbertsame_Autos.f
        rw [hk1]
        simp only [Option.bind_some]
        rw [if_pos e0, if_pos e1, if_neg (by decide)]
        exact no _ (Nat.le_max_right k 1)
    · refine ⟨max k 1, false, ?_, ⟨fun h => (by cases h), fun h => (e1 h.2.1).elim⟩⟩
      unfold filbertsame_Autos.f
      rw [hk1]
      simp only [Option.bind_some]
      rw [if_pos e0, if_neg e1]
      exact no _ (Nat.le_max_right k 1)
  · refine ⟨max k 1, false, ?_, ⟨fun h => (by cases h), fun h => (e0 h.1).elim⟩⟩
    unfold filbertsame_Autos.f
    rw [hk1]
    simp only [Option.bind_some]
    rw [if_neg e0]
    exact no _ (Nat.le_max_right k 1)
end Go.Proofs.Ytlffephcbfdknaa.Chk
