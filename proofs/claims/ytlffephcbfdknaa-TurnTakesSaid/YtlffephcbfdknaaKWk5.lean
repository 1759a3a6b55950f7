/- Walk by hand: turn.turned's step. -/
import Derived.Test.YtlffephcbfdknaaKWk3
import Derived.Test.YtlffephcbfdknaaKWk4
import Derived.Test.YtlffephcbfdknaaK2
set_option linter.unusedVariables false
set_option linter.unusedSimpArgs false
namespace Go.Proofs.Ytlffephcbfdknaa.Wk
open Go.RowKit Go.Proofs.YtlffephcbfdknaaW.PrintWords Go.Proofs.YtlffephcbfdknaaW.PrintMore Go.Proofs.YtlffephcbfdknaaW.PrintLast Go.Proofs.Sep Go.Proofs.Fil

theorem arr2 : Go.WideMaps.ArrKey Try.prog 62 3 2 := ⟨Try.underlying62, by kernel_rfl, by kernel_rfl, by kernel_rfl⟩
theorem keyA : Maps.Keyed Try.prog 62 := Maps.Keyed.of_law arr2.law
theorem tsize : ∃ m, Try.prog.types.size = m + 1 := ⟨Try.prog.types.size - 1, by kernel_rfl⟩
theorem zeroL (w : World) : (zeroValue 26).run Try.prog w = .ok nilS w := by kernel_rfl
/-- a pair's key -/
def kl2 (t l : Nat) : Lit := .string (keyBytes [.int .i64 (t : Int), .int .i64 (l : Int)])
theorem key2 {t l : Nat} (ht : t < 100000) (hl : l < 100000) : Go.keyOf Try.prog 62 (.agg #[.int .i64 (t : Int), .int .i64 (l : Int)]) = some (kl2 t l) :=
  Go.WideMaps.keyOf_pair arr2 Try.underlying3 tsize (WalkArith.wf_i64 (by omega)) (WalkArith.wf_i64 (by omega))
theorem kl2_inj {t l t' l' : Nat} (ht : t < 100000) (hl : l < 100000) (ht' : t' < 100000) (hl' : l' < 100000) (h : kl2 t l = kl2 t' l') : t = t' ∧ l = l' := by
  have h1 := key2 ht hl
  rw [h] at h1
  have h2 := keyA.inj h1 (key2 ht' hl')
  simp at h2
  exact ⟨by omega, by omega⟩
/-- the key of a number of a pair -/
def klj (n j : Nat) : Lit := kl2 (j / n) (j % n)
theorem klj_eq {n t l : Nat} (hl : l < n) : klj n (t * n + l) = kl2 t l := by
  unfold klj
  have h1 : (t * n + l) / n = t := by
    rw [Nat.mul_comm, Nat.mul_add_div (by omega), Nat.div_eq_of_lt hl, Nat.add_zero]
  have h2 : (t * n + l) % n = l := by
    rw [Nat.mul_comm, Nat.mul_add_mod, Nat.mod_eq_of_lt hl]
  rw [h1, h2]
theorem klj_inj {n i j : Nat} (hn : n < 100000) (hi : i < 100000) (hj : j < 100000) (h0 : 0 < n) (h : klj n i = klj n j) : i = j := by
  have h1 := kl2_inj (Nat.lt_of_le_of_lt (Nat.div_le_self i n) hi) (Nat.lt_trans (Nat.mod_lt i h0) hn) (Nat.lt_of_le_of_lt (Nat.div_le_self j n) hj) (Nat.lt_trans (Nat.mod_lt j h0) hn) h
  rw [← Nat.div_add_mod i n, ← Nat.div_add_mod j n, h1.1, h1.2]
theorem I_append (a b : List Nat) : I (a ++ b) = I a ++ I b := by simp [I]

set_option maxRecDepth 100000 in
set_option maxHeartbeats 4000000 in
theorem turned1_calls {b : Nat} {F : Nat → Prop} {w0 W : World} {Lx : List Res} (N n : Nat) (hn : n ≤ 1000) (hN : N ≤ 1000) (gf B cnt : Nat) (f : Lit → Value) (g : Nat → List Nat) (hg : ∀ j, (g j).length ≤ 3000) (X : List Nat) (hX : ∀ t ∈ X, t < N) (hXl : X.length ≤ 256) (l : Nat) (hl : l < n) (A : Option Addr) (c : Nat)
    (hM : Mem b F w0 W (Lx ++ (blk gf #[.map (some B)] 73 :: vm Try.prog 62 B cnt f :: rows kI 3 (N * n) (fun j => f (klj n j)) (fun j => I (g j))))) (hC : kI.C W A (I X).length (I X)) :
    Calls Try.prog 41 #[.slice A (I X).length c, .int .i64 (l : Int), .pointer (some ⟨gf, 0, none⟩)] W fun e w' => ∃ v', e = .returned v' ∧
      Mem b F w0 w' (row kI 3 v' (I (X.flatMap fun t => g (t * n + l))) :: (Lx ++ (blk gf #[.map (some B)] 73 :: vm Try.prog 62 B cnt f :: rows kI 3 (N * n) (fun j => f (klj n j)) (fun j => I (g j))))) := by
  have HG := Aside0.mk hg
  have HX := Aside0.mk hX
  have HM0 := Aside0.mk hM
  have HC := Aside0.mk hC
  clear hM hg hX hC
  rw [I_len] at HC ⊢
  go_enter Try.func41, Try.ntmps41
  go_wp2
  have HM := (Mem.start W).nil kI 3
  go_loopg [6, 8, 11] X.length (fun gk v6 v8 v11 w' => ∃ i : Nat, v11 = .int .i64 i ∧ Aside0 (gk + i = X.length) ∧ Aside0 (((X.take i).flatMap fun t => g (t * n + l)).length ≤ i * 3000) ∧ Mem W.heap.size (fun _ => False) W w' [row kI 3 v6 (I ((X.take i).flatMap fun t => g (t * n + l)))])
  case atStart => exact ⟨0, rfl, ⟨rfl⟩, ⟨Nat.le_refl _⟩, HM⟩
  case round =>
    clear HM
    obtain ⟨w10, rfl⟩ : ∃ x : World, x = wr := ⟨_, rfl⟩
    obtain ⟨i, rfl, HK, HLN, HM⟩ := hrel
    have hil : i ≤ X.length := by have := HK.out; omega
    by_cases hlt : i < X.length
    · obtain ⟨ad1, e1, hcell1⟩ := Kd.at_int (show kI.C w10 A (I X).length (I X) by rw [I_len]; exact Kd.C_below HC.out HM.below) (i : Int) (by omega) (by rw [I_len]; omega)
      subst e1
      rw [Int.toNat_natCast, rd_I] at hcell1
      obtain ⟨t, ht⟩ : ∃ t, t = X.getD i 0 := ⟨_, rfl⟩
      rw [← ht] at hcell1
      have htN : t < N := HX.out t (by rw [ht, getD_at hlt]; exact List.getElem_mem hlt)
      have htk : (X.take (i + 1)).flatMap (fun t => g (t * n + l)) = ((X.take i).flatMap fun t => g (t * n + l)) ++ g (t * n + l) := by
        rw [take_snoc' hlt, List.flatMap_append, ht, getD_at hlt]
        simp
      obtain ⟨out, hout⟩ : ∃ out, out = (X.take i).flatMap fun t => g (t * n + l) := ⟨_, rfl⟩
      rw [← hout] at HM HLN htk
      have hol : out.length ≤ i * 3000 := HLN.out
      have hgl := HG.out (t * n + l)
      have HL := (HM0.out.grow HM.below).behind
      have hcf : w10.cell? ⟨gf, 0, none⟩ = some (.map (some B)) := (HL.cell (i := 0) rfl 0).1
      have hj : t * n + l < N * n := by
        have : (t + 1) * n ≤ N * n := Nat.mul_le_mul_right n htN
        rw [Nat.add_mul] at this
        omega
      have hrun := HL.vmRun (i := 1) keyA Try.underlying73 (zeroL _) rfl (key2 (t := t) (l := l) (by omega) (by omega))
      rw [← klj_eq (n := n) hl] at hrun
      obtain ⟨Av, cv, ev, hcv, hCv⟩ := HL.rowSlice (i := t * n + l + 2) (rows_at (d := kI) (e := 3) (f := fun j => f (klj n j)) (g := fun j => I (g j)) hj)
      rw [ev] at hrun
      have HTK := Aside0.mk htk
      have HCV := Aside0.mk hCv
      clear htk hCv hout ht HL ev HLN
      rw [I_len] at hrun hcv
      go_wp2_with (((with_reducible refine gate_dst (N := 21) rfl ?_); (refine HM.appendAll (0 : Int) 0 rfl (.tmp 15) (.tmp 20) 26 3 (.int .i64 0) 8 rfl Try.underlying26 infoI rfl (by decide) _ (I out) (I (g (t * n + l))) Av _ cv rfl rfl rfl (by have h1 := HCV.out; rw [I_len] at h1; exact h1) (by rw [I_len]; omega) ?_; intro v21 w11 HM1; clear HM hcf hrun; rw [← I_append, ← HTK.out] at HM1)))
      go_roundg (gk - 1)
      case measure => have := HK.out; omega
      case rel => exact ⟨i + 1, by go_num, ⟨by have := HK.out; omega⟩, ⟨by rw [HTK.out, List.length_append]; omega⟩, HM1⟩
    · obtain rfl : i = X.length := by omega
      rw [List.take_length] at HM
      go_wp2
      refine bodyPost_ret (results_single rfl (.tmp .nil)) (by rfl) ⟨_, rfl, HM0.out.row_ HM.below (HM.rowAt (i := 0) rfl)⟩
end Go.Proofs.Ytlffephcbfdknaa.Wk
