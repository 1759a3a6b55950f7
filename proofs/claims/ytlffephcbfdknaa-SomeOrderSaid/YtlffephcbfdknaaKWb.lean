/- What the walks by hand share. -/
import Derived.Test.YtlffephcbfdknaaKWk0
import Derived.Test.YtlffephcbfdknaaK1
import Derived.Test.YtlffephcbfdknaaKEv4
set_option linter.unusedVariables false
set_option linter.unusedSimpArgs false
namespace Go.Proofs.Ytlffephcbfdknaa.Wk
open Go.RowKit Go.Proofs.YtlffephcbfdknaaW.PrintWords Go.Proofs.YtlffephcbfdknaaW.PrintMore Go.Proofs.YtlffephcbfdknaaW.PrintLast Go.Proofs.Sep Go.Proofs.Fil

abbrev kI : Kd Int := Kd.int .i64
abbrev kB : Kd Bool := Kd.bool
abbrev kU : Kd Int := Kd.int .u8
abbrev kL : Kd (List Int) := Kd.slice 3 kI
theorem rd_I (r : List Nat) (i : Nat) : rd (I r) (i : Int) = ((r.getD i 0 : Nat) : Int) := by unfold rd; rw [Int.toNat_natCast]; exact I_get r i
theorem rdB (r : List Bool) (i : Nat) : rdOf false r (i : Int) = r.getD i false := by unfold rdOf; rw [Int.toNat_natCast]
theorem zeroI (w : World) : (zeroValue 3).run Try.prog w = .ok (.int .i64 0) w := by kernel_rfl
theorem keyS : Maps.Keyed Try.prog 9 := Maps.string_keyed Try.underlying9
theorem infoB1 : (Try.prog.info? 4).map (·.size) = some 1 := by kernel_rfl
theorem infoI1 : (Try.prog.info? 3).map (·.size) = some 1 := by kernel_rfl
theorem infoU1 : (Try.prog.info? 5).map (·.size) = some 1 := by kernel_rfl
theorem infoNx1 : (Try.prog.info? 22).map (·.size) = some 1 := by kernel_rfl
theorem infoEs1 : (Try.prog.info? 23).map (·.size) = some 1 := by kernel_rfl
theorem infoA4 : (Try.prog.info? 25).map (·.size) = some 4 := by kernel_rfl
/-- A row of rows that came in: row i. -/
theorem row_at {W : World} {A : Option Addr} {m : Tab} (h : kL.C W A (II m).length (II m)) {i : Nat} (hi : i < m.length) : ∃ ad A1 c1, A = some ad ∧ W.cell? (ad.add i) = some (.slice A1 (I (m.getD i [])).length c1) ∧ (I (m.getD i [])).length ≤ c1 ∧ kI.C W A1 (I (m.getD i [])).length (I (m.getD i [])) := by
  obtain ⟨ad, c, e, _, hK, hc0⟩ := Kd.C_get h ([] : List Int) (i : Int) (by omega) (by rw [II_len]; omega)
  rw [Int.toNat_natCast, II_get] at hK
  obtain ⟨A0, c0, rfl, l0, g0⟩ := hK
  refine ⟨ad, A0, c0, e, ?_, l0, g0⟩
  have hq := hc0 0 _ rfl
  have e2 : (i : Int).toNat * kL.sz + 0 = i := by show (i : Int).toNat * 1 + 0 = i; omega
  rwa [e2] at hq

end Go.Proofs.Ytlffephcbfdknaa.Wk
