/- Keys of two numbers. -/
import Derived.Test.YtlffephcbfdknaaKWb
import Derived.WideKeyPair
set_option linter.unusedVariables false
set_option linter.unusedSimpArgs false
namespace Go.Proofs.Ytlffephcbfdknaa.Wk
open Go.RowKit Go.Proofs.YtlffephcbfdknaaW.PrintWords Go.Proofs.YtlffephcbfdknaaW.PrintMore Go.Proofs.YtlffephcbfdknaaW.PrintLast Go.Proofs.Sep Go.Proofs.Fil

theorem arr2 : Go.WideMaps.ArrKey Try.prog 62 3 2 := ⟨Try.underlying62, by kernel_rfl, by kernel_rfl, by kernel_rfl⟩
theorem keyA : Maps.Keyed Try.prog 62 := Maps.Keyed.of_law arr2.law
theorem tsize : ∃ m, Try.prog.types.size = m + 1 := ⟨Try.prog.types.size - 1, by kernel_rfl⟩
/-- a pair's key -/
def kl2 (t l : Nat) : Lit := .string (keyBytes [.int .i64 (t : Int), .int .i64 (l : Int)])
theorem key2 {t l : Nat} (ht : t < 100000) (hl : l < 100000) : Go.keyOf Try.prog 62 (.agg #[.int .i64 (t : Int), .int .i64 (l : Int)]) = some (kl2 t l) :=
  Go.WideMaps.keyOf_pair arr2 Try.underlying3 tsize (WalkArith.wf_i64 (by omega)) (WalkArith.wf_i64 (by omega))
theorem kl2_inj {t l t' l' : Nat} (ht : t < 100000) (hl : l < 100000) (ht' : t' < 100000) (hl' : l' < 100000) (h : kl2 t l = kl2 t' l') : t = t' ∧ l = l' := by
  have h1 := key2 ht hl
  rw [h] at h1
  have h2 := keyA.inj h1 (key2 ht' hl')
  simp at h2
  exact ⟨by omega, by omega⟩
/-- the key of a number of a pair -/
def klj (n j : Nat) : Lit := kl2 (j / n) (j % n)
theorem klj_eq {n t l : Nat} (hl : l < n) : klj n (t * n + l) = kl2 t l := by
  unfold klj
  have h1 : (t * n + l) / n = t := by
    rw [Nat.mul_comm, Nat.mul_add_div (by omega), Nat.div_eq_of_lt hl, Nat.add_zero]
  have h2 : (t * n + l) % n = l := by
    rw [Nat.mul_comm, Nat.mul_add_mod, Nat.mod_eq_of_lt hl]
  rw [h1, h2]
theorem klj_inj {n i j : Nat} (hn : n < 100000) (hi : i < 100000) (hj : j < 100000) (h0 : 0 < n) (h : klj n i = klj n j) : i = j := by
  have h1 := kl2_inj (Nat.lt_of_le_of_lt (Nat.div_le_self i n) hi) (Nat.lt_trans (Nat.mod_lt i h0) hn) (Nat.lt_of_le_of_lt (Nat.div_le_self j n) hj) (Nat.lt_trans (Nat.mod_lt j h0) hn) h
  rw [← Nat.div_add_mod i n, ← Nat.div_add_mod j n, h1.1, h1.2]
end Go.Proofs.Ytlffephcbfdknaa.Wk
