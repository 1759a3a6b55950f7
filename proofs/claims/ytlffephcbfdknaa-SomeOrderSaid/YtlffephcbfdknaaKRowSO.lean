import Derived.Test.YtlffephcbfdknaaKWb
import Derived.Test.YtlffephcbfdknaaWSized
import Derived.Lib.SmallJoins
import Derived.Deep.Grids
import Derived.Deep.Matrix
import Derived.WalkKit
import Derived.ProofKit
import Derived.OpenShut
import Derived.ShutString
import Derived.ChangeOld
import Derived.Below
import Derived.Carry
import Derived.Test.YtlffephcbfdknaaRows
import Derived.Test.YtlffephcbfdknaaK12
import Derived.SizedLaws
set_option linter.unusedVariables false
set_option linter.unusedSimpArgs false
namespace Go.Proofs.Ytlffephcbfdknaa.Wk
open Go.ChangeShapes Go.WideShapes Go.ChangeAt Go.RowKit Go.Deep Go.Proofs.YtlffephcbfdknaaW.PrintWords Go.Proofs.YtlffephcbfdknaaW.PrintMore Go.Proofs.YtlffephcbfdknaaW.PrintLast Go.Proofs.Sep Go.Proofs.Fil
theorem own0 : ownKnob Try.prog.godebug = none := by kernel_rfl
theorem laidOut0 : laidOutB Try.prog = true := by kernel_rfl
section
variable {H : Type} {enc : TypeId × Value → H} {W : World}
theorem ints_C {a : Option Addr} {L cap : Nat} {Z : List Int} (hl : L ≤ cap) (hm : cap ≤ maxLen) (hz : Z.length = cap) (hc : ∀ a', a = some a' → ∀ c, c < cap → W.cell? (a'.add c) = some (.int .i64 (Z.getD c 0))) (hn : a = none → cap = 0) : kI.C W a (Z.take L).length (Z.take L) := by
  have e : (Z.take L).length = L := by rw [List.length_take]; omega
  rw [e]
  refine Kd.C_of_reads (d := (0 : Int)) (h1 := fun _ => rfl) ⟨e, by unfold maxLen at hm; omega, fun hp => ?_⟩
  cases a with
  | none => have := hn rfl; omega
  | some a' =>
    refine ⟨a', rfl, fun j hj => ?_⟩
    rw [hc a' rfl j (by omega)]
    simp [List.getD_eq_getElem?_getD, hj]
set_option maxRecDepth 100000 in
theorem word_open {v : Value} {d : DataW H} {p : List MemPlace} {b0 : Nat} (hv : Value.okWide Try.prog W .any b0 26 v) (h : DataW.Trod enc Try.prog W 0 (fun _ => true) true 26 v d p) :
    ∃ (A : Option Addr) (c : Nat) (l : List Int), v = .slice A l.length c ∧ kI.C W A l.length l ∧ l.length ≤ c := by
  obtain ⟨a, len, cap, rfl⟩ := okWide_slice Try.underlying26 hv
  obtain ⟨fuel, hf⟩ := h
  rcases open_ints Try.underlying26 Try.underlying3 (by kernel_rfl) hf with ⟨hcs, _⟩ | ⟨x, l, c, zs, hcs, _, hl, hm, hz, _, hcell, hwz⟩
  · simp [Value.cells] at hcs
    obtain ⟨rfl, rfl, rfl⟩ := hcs
    exact ⟨none, 0, [], rfl, Kd.C_nil _ _, Nat.le_refl _⟩
  · simp [Value.cells] at hcs
    obtain ⟨rfl, rfl, rfl⟩ := hcs
    have e : (zs.take len).length = len := by rw [List.length_take]; have : zs.length = cap := by simpa using hz
                                              omega
    refine ⟨_, cap, zs.take len, by rw [e], ints_C hl hm (by simpa using hz) (fun a' ha c hc => ?_) (fun h => by cases h), by rw [e]; exact hl⟩
    injection ha with ha
    subst ha
    exact hcell c (by have : zs.length = cap := by simpa using hz
                      omega)
theorem rows_open {n : Nat} {v : Value} {y : DataW H × List MemPlace} (h : DataW.trod enc Try.prog W 0 (fun _ => true) true n 22 [v] = some y) :
    ∃ (A : Option Addr) (c : Nat) (l : List (List Int)), v = .slice A l.length c ∧ kL.C W A l.length l ∧ l.length ≤ c := by
  rcases open_int_rows Try.underlying22 Try.underlying26 Try.underlying3 (by kernel_rfl) (by kernel_rfl) h with ⟨hcs, _⟩ | ⟨a, len, cap, A, L, C, Z, hcs, _, hl, hm, _, hr⟩
  · injection hcs with hcs
    subst hcs
    exact ⟨none, 0, [], rfl, Kd.C_nil _ _, Nat.le_refl _⟩
  · injection hcs with hcs
    subst hcs
    have e : ((List.range len).map fun r => (Z r).take (L r)).length = len := by simp
    refine ⟨some a, cap, (List.range len).map fun r => (Z r).take (L r), by rw [e], ?_, by rw [e]; exact hl⟩
    rw [e]
    refine ⟨e, by unfold maxLen at hm; omega, fun hp => ⟨a, rfl, fun j p hj => ?_⟩⟩
    have hjl : j < len := by
      have := (List.getElem?_eq_some_iff.1 hj).1
      rwa [e] at this
    simp [hjl] at hj
    subst hj
    obtain ⟨h1, h2, h3, h4, _, h5, h6⟩ := hr j (by omega)
    have e2 : ((Z j).take (L j)).length = L j := by rw [List.length_take]; omega
    refine ⟨[.slice (A j) (L j) (C j)], rfl, ⟨A j, C j, by rw [e2], by rw [e2]; exact h2, ints_C h2 h3 h4 (fun a' ha c hc => (h6 a' ha).2 c hc) h5⟩, fun i u hi => ?_⟩
    cases i with
    | zero =>
      simp only [List.getElem?_cons_zero, Option.some.injEq] at hi
      subst hi
      show W.cell? (a.add (j * 1 + 0)) = _
      rw [show j * 1 + 0 = j by omega]
      exact h1
    | succ i => simp at hi
theorem bools_open {n : Nat} {v : Value} {y : DataW H × List MemPlace} (h : DataW.trod enc Try.prog W 0 (fun _ => true) true n 23 [v] = some y) :
    ∃ (A : Option Addr) (c : Nat) (l : List Bool), v = .slice A l.length c ∧ kB.C W A l.length l ∧ l.length ≤ c := by
  rcases open_bools Try.underlying23 Try.underlying4 (by kernel_rfl) h with ⟨hcs, _⟩ | ⟨a, len, cap, B, hcs, _, hl, hm, _, hr⟩
  · injection hcs with hcs
    subst hcs
    exact ⟨none, 0, [], rfl, Kd.C_nil _ _, Nat.le_refl _⟩
  · injection hcs with hcs
    subst hcs
    have e : ((List.range len).map B).length = len := by simp
    refine ⟨some a, cap, (List.range len).map B, by rw [e], ?_, by rw [e]; exact hl⟩
    rw [e]
    refine Kd.C_of_reads (d := false) (h1 := fun _ => rfl) ⟨e, by unfold maxLen at hm; omega, fun hp => ⟨a, rfl, fun j hj => ?_⟩⟩
    rw [hr j (by omega)]
    simp [List.getD_eq_getElem?_getD, hj]
set_option maxRecDepth 100000 in
theorem auto_open {v : Value} {d : DataW H} {p : List MemPlace} {b0 : Nat} (hv : Value.okWide Try.prog W .any b0 25 v) (h : DataW.Trod enc Try.prog W 0 (fun _ => true) true 25 v d p) :
    ∃ (b t : Int) (A2 : Option Addr) (c2 : Nat) (l2 : List (List Int)) (A3 : Option Addr) (c3 : Nat) (l3 : List Bool), v = .agg #[.int .i64 b, .int .i64 t, .slice A2 l2.length c2, .slice A3 l3.length c3] ∧
      kL.C W A2 l2.length l2 ∧ l2.length ≤ c2 ∧ kB.C W A3 l3.length l3 ∧ l3.length ≤ c3 := by
  obtain ⟨v0, v1, v2, v3, y0, y1, y2, y3, n, rfl, _, _, h0, h1, h2, h3⟩ := Go.Joins.open_agg4 Try.underlying25 (by kernel_rfl) (by kernel_rfl) hv h
  obtain ⟨b, e0, _, _⟩ := DataW.trod_int Try.underlying3 h0
  obtain ⟨t, e1, _, _⟩ := DataW.trod_int Try.underlying3 h1
  injection e0 with e0
  injection e1 with e1
  subst e0
  subst e1
  obtain ⟨A2, c2, l2, rfl, h4, h5⟩ := rows_open h2
  obtain ⟨A3, c3, l3, rfl, h6, h7⟩ := bools_open h3
  exact ⟨b, t, A2, c2, l2, A3, c3, l3, rfl, h4, h5, h6, h7⟩
theorem kept {W' : World} {t : TypeId} {v : Value} {d : DataW H} {ps : List MemPlace} (hr : Try.prog.readableRec t = true) (ht : t < Try.prog.types.size) (h : DataW.Trod enc Try.prog W 0 (fun _ => true) true t v d ps) (hb : Below W.heap.size W W') :
    DataW.Trod enc Try.prog W' 0 (fun b => decide (b < W.heap.size)) true t v d ps :=
  Below.trod laidOut0 hr ht h hb (by obtain ⟨m, hm⟩ := h; exact DataW.trod_lt m _ _ _ hm)
end
end Go.Proofs.Ytlffephcbfdknaa.Wk
set_option linter.unusedVariables false
set_option linter.unusedSimpArgs false
namespace Go.Proofs.Ytlffephcbfdknaa.someOrder
open Go.ChangeShapes Go.WideShapes Go.ChangeAt Go.RowKit Go.Proofs.Ytlffephcbfdknaa.Wk
set_option maxRecDepth 100000 in
theorem lifted (os : Os) (started : os.Started) (H : Type) (enc : TypeId × Value → H) :
    ReturnsInHanded {} Try.checked os 5 .any (Rows.someOrderSpec.pre6 enc Try.prog Try.f5 Rows.someOrderRow.domain false) (Rows.someOrderSpec.post enc Try.prog Try.f5 false true false false) := by
  refine returnsInHanded_of_change_sized (C := Try.checked) own0 started (by kernel_rfl) Try.func5
    (ChangeSpec.witness6 (enc := enc) (C := Try.checked) false ⟨#[], #[.agg #[.int .i64 0, .int .i64 0, .slice none 0 0, .slice none 0 0], .agg #[.int .i64 0, .int .i64 0, .slice none 0 0, .slice none 0 0]], []⟩ 8 (by kernel_rfl) (by kernel_rfl) (by kernel_rfl) (by kernel_rfl)) ?_
  intro W base args ds gs before hval0 hW hcnd hsz0 _
  have hsz : (DataW.weightsEach Try.prog (Try.f5.params.toList ++ Rows.someOrderSpec.plain.varTypes Try.prog) (ds ++ gs)).all (· ≤ reachBytes) = true := hsz0
  have hval : ∀ (j : Nat) t v, Try.f5.params[j]? = some t → args[j]? = some v → Value.okWide Try.prog W .any base t v := hval0
  have hW' := hW
  obtain ⟨p, q, hA0, hV, rfl, hfz, hnd⟩ := hW
  have hA : DataW.TrodAll enc Try.prog W 0 (fun _ => true) true Try.f5.params.toList args.toList ds p := hA0
  rw [Try.params5] at hA hval hsz
  obtain ⟨v0, vs0, d0, ds0, p0, q0, hargs, rfl, rfl, h0, r0⟩ := trodAll_cons hA
  obtain ⟨v1, vs1, d1, ds1, p1, q1, rfl, rfl, rfl, h1, r1⟩ := trodAll_cons r0
  obtain ⟨rfl, rfl, rfl⟩ := trodAll_nil r1
  obtain rfl : args = #[v0, v1] := by cases args; simp_all
  obtain ⟨rfl, rfl⟩ := trodVars_none hV
  obtain ⟨b0, t0, A02, c02, l02, A03, c03, l03, rfl, hC02, hc02, hC03, hc03⟩ := auto_open (hval 0 25 v0 rfl rfl) h0
  obtain ⟨b1, t1, A12, c12, l12, A13, c13, l13, rfl, hC12, hc12, hC13, hc13⟩ := auto_open (hval 1 25 v1 rfl rfl) h1
  clear hA0 hval0 hsz0 hsz
  refine (someOrder_calls b0 t0 A02 c02 l02 A03 c03 l03 b1 t1 A12 c12 l12 A13 c13 l13 W hC02 hc02 hC03 hc03 hC12 hc12 hC13 hc13).mono fun e W' ⟨he, bel⟩ => ?_
  subst he
  exact ⟨_, rfl, _, _, _, [], _, [], hW', trodAll_mk1 (shut_bool Try.underlying4 _), (trodAll_cons_mk (kept (by kernel_rfl) (of_decide_eq_true (by kernel_rfl)) h0 bel) (trodAll_cons_mk (kept (by kernel_rfl) (of_decide_eq_true (by kernel_rfl)) h1 bel) trodAll_mk0)), rfl, bel.frame _, fun h => by cases h⟩
theorem over : Rows.someOrderRow.holds Try.pinned (OpenSpec.ofChange Rows.someOrderSpec) :=
  OpenClaim.holds_of_wide 5 Try.f5 rfl rfl rfl rfl rfl rfl rfl ⟨rfl, rfl, rfl, rfl, rfl⟩ rfl rfl rfl rfl rfl (by kernel_rfl) Try.func5 (by kernel_rfl)
    (of_decide_eq_true (by kernel_rfl)) (by unfold Func.isWrapper; first | (rw [if_pos (by decide +kernel)]; kernel_rfl) | (rw [if_neg (by decide +kernel)]; exact ⟨rfl, rfl⟩))
    (fun os started H enc _ => lifted os started H enc)
theorem proved : Rows.SomeOrderSaid := over
#print axioms proved
end Go.Proofs.Ytlffephcbfdknaa.someOrder
namespace Go.Proofs.Ytlffephcbfdknaa
theorem someOrder_holds : Rows.SomeOrderSaid := someOrder.proved
end Go.Proofs.Ytlffephcbfdknaa
