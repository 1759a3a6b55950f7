/- More on what a call owns (Sep): one thing brought to the front; a row's cells written one behind the other; slices.Sort and slices.Compact of a row. -/
import Derived.Test.YtlffephcbfdknaaK3
import Derived.Lib.RowBridge
import Derived.Test.YtlffephcbfdknaaShelf
import Derived.Shelf.Slices.In.SortNone
set_option linter.unusedVariables false
namespace Go.Proofs.Sep
open Go.RowKit Go.Proofs.YtlffephcbfdknaaW.PrintWords Go.Proofs.YtlffephcbfdknaaW.PrintMore Go.Proofs.YtlffephcbfdknaaW.PrintLast
theorem Star.front {w : World} {b : Nat} : ∀ {L : List Res} {i : Nat} {r : Res} {F : Nat → Prop}, Star w b F L → L[i]? = some r → Star w b F (r :: L.eraseIdx i) := by
  intro L
  induction L with
  | nil => intro i r F _ h; simp at h
  | cons r0 rs ih =>
    rintro i r F ⟨S, hS, hr, hs⟩ hi
    cases i with
    | zero =>
      simp only [List.getElem?_cons_zero, Option.some.injEq] at hi
      subst hi
      exact ⟨S, hS, hr, hs⟩
    | succ i =>
      rw [List.getElem?_cons_succ] at hi
      obtain ⟨S2, hS2, hr2, hk2⟩ := ih hs hi
      exact ⟨S2, fun k hk => ⟨(hS2 k hk).1.1, (hS2 k hk).2⟩, hr2, S, fun k hk => ⟨⟨(hS k hk).1, fun h2 => (hS2 k h2).1.2 hk⟩, (hS k hk).2⟩, hr, hk2.mono (fun k hk => ⟨⟨hk.1.1, hk.2⟩, hk.1.2⟩)⟩
section
variable {b : Nat} {F : Nat → Prop} {w0 w w1 W : World} {L : List Res}
theorem Mem.front {r : Res} (h : Mem b F w0 w L) (i : Nat) (hi : L[i]? = some r) : Mem b F w0 w (r :: L.eraseIdx i) := ⟨h.star.front hi, h.chg, h.base⟩
/-- What is behind the first things is all there is. -/
theorem Mem.behind {L1 L2 : List Res} (h : Mem b F w0 w (L1 ++ L2)) : Mem b F w0 w L2 := by
  induction L1 with
  | nil => exact h
  | cons r rs ih => exact ih (h.drop 0)
theorem Mem.rowBlk {α : Type} {d : Kd α} {i e g n c : Nat} {xs : List α} (h : Mem b F w0 w L) (hi : L[i]? = some (row d e (.slice (some ⟨g, 0, none⟩) n c) xs)) : b ≤ g ∧ g < w.heap.size := by
  obtain ⟨S, hP, hS⟩ := h.get_ hi
  exact hS g ((show d.R e w b S _ xs from hP).1 g (by simp [Value.ownBlock]))
/-- A row's cells are written one behind the other. -/
theorem Mem.setCells {α : Type} {enc : α → Value} {h1 : ∀ x, (enc x).oneCell' = true} {i e g n cap : Nat} (us : List α) : ∀ (o : Nat) (w : World) (xs : List α) (L : List Res), Mem b F w0 w L → L[i]? = some (row (Kd.scalar enc h1) e (.slice (some ⟨g, 0, none⟩) n cap) xs) → o + us.length = xs.length →
    Mem b F w0 (w.setCells g o (us.map enc)) (L.set i (row (Kd.scalar enc h1) e (.slice (some ⟨g, 0, none⟩) n cap) (xs.take o ++ us))) := by
  induction us with
  | nil =>
    intro o w xs L h hi hl
    rw [List.append_nil, List.take_of_length_le (by simp at hl; omega)]
    have e1 : L.set i (row (Kd.scalar enc h1) e (.slice (some ⟨g, 0, none⟩) n cap) xs) = L := by
      apply List.ext_getElem?
      intro k
      by_cases e2 : i = k
      · subst e2
        have hlt := (List.getElem?_eq_some_iff.1 hi).1
        rw [List.getElem?_set_self hlt, hi]
      · rw [List.getElem?_set_ne e2]
    rw [e1]
    exact h
  | cons u us ih =>
    intro o w xs L h hi hl
    have hlt := (List.getElem?_eq_some_iff.1 hi).1
    have h2 := h.setRow hi (o : Int) u
    rw [Int.toNat_natCast] at h2
    have h3 := ih (o + 1) _ (xs.set o u) _ h2 (List.getElem?_set_self hlt) (by simp at hl ⊢; omega)
    rw [List.set_set] at h3
    have e1 : (xs.set o u).take (o + 1) ++ us = xs.take o ++ u :: us := by
      rw [List.take_succ_eq_append_getElem (by simp at hl ⊢; omega), List.getElem_set_self, List.append_assoc, List.take_set_of_le (Nat.le_refl o)]
      rfl
    rw [e1] at h3
    exact h3
theorem Mem.holds {i e g n cap : Nat} {xs : List Int} (h : Mem b F w0 w L) (hi : L[i]? = some (row (Kd.int .i64) e (.slice (some ⟨g, 0, none⟩) n cap) xs)) : Go.Sort.Holds (Value.int .i64) w g 0 xs.toArray := by
  intro j hj
  have hj' : j < xs.length := by simpa using hj
  obtain ⟨hc, hf⟩ := h.rowCell (0 : Int) (i := i) (j := j) hi hj'
  rw [Nat.zero_add]
  refine ⟨?_, hf⟩
  rw [hc]
  simp [List.getD, hj']
theorem _root_.Go.Proofs.Sep.below_grow (w : World) (os : Array Obj) : Below w.heap.size w (Go.Sort.grow w os) :=
  ⟨rfl, rfl, rfl, by show w.heap.size ≤ (w.heap ++ os).size; rw [Array.size_append]; omega, fun _ hj => Go.Sort.heap_grow_old w os hj⟩
end
end Go.Proofs.Sep
namespace Go.Proofs.Ytlffephcbfdknaa.Wk
open Go.RowKit Go.Proofs.YtlffephcbfdknaaW.PrintWords Go.Proofs.YtlffephcbfdknaaW.PrintMore Go.Proofs.YtlffephcbfdknaaW.PrintLast Go.Proofs.Sep
section
variable {b : Nat} {F : Nat → Prop} {w0 w W : World} {L : List Res}
theorem sort_calls (hM : Mem b F w0 w L) (i : Nat) (v : Value) (xs : List Int) (hi : L[i]? = some (row (Kd.int .i64) 3 v xs)) (hl : xs.length < 4611686018427387904) :
    Calls Try.prog 51 #[v] w fun e w' => e = .returned (.tuple #[]) ∧ Mem b F w0 w' (L.set i (row (Kd.int .i64) 3 v (xs.mergeSort fun x y => decide (x ≤ y)))) := by
  have hil := (List.getElem?_eq_some_iff.1 hi).1
  by_cases hz : 0 < xs.length
  · obtain ⟨g, cap, rfl, hcap⟩ := hM.rowForm hi hz
    refine (Try.slices_Sort_int g 0 cap xs w (hM.holds hi) (hM.rowBlk hi).2 hl).mono ?_
    rintro e w' ⟨rfl, n, os, rfl⟩
    refine ⟨rfl, ?_⟩
    rw [Go.Lib.putRow_eq_setCells (Value.int .i64) w g 0 xs.toArray _ n (hM.holds hi) (by simp)]
    have h2 := Mem.setCells (xs.mergeSort fun x y => decide (x ≤ y)) 0 _ xs L (hM.drewN n) hi (by simp)
    rw [List.take_zero, List.nil_append] at h2
    exact h2.grow (below_grow _ os)
  · have hx : xs = [] := List.eq_nil_of_length_eq_zero (by omega)
    subst hx
    obtain ⟨A, cap, rfl, _, _⟩ := hM.rowSlice hi
    refine (Any.slices_Sort_int_none Try.lays189 A cap w).mono ?_
    rintro e w' ⟨rfl, rfl⟩
    refine ⟨rfl, ?_⟩
    rw [List.mergeSort_nil]
    exact hM.set_ hi (fun S hP => ⟨S, S, Chg.refl _ _, fun _ h => .inl h, fun _ h => .inl h, hP⟩)
theorem compact_calls (hM : Mem b F w0 w L) (i : Nat) (v : Value) (xs : List Int) (hi : L[i]? = some (row (Kd.int .i64) 3 v xs)) (hl : xs.length < 4611686018427387904) :
    Calls Try.prog 52 #[v] w fun e w' => ∃ v', e = .returned v' ∧ Mem b F w0 w' (L.set i (row (Kd.int .i64) 3 v' (Go.Lib.compact xs))) := by
  have hil := (List.getElem?_eq_some_iff.1 hi).1
  by_cases hz : 0 < xs.length
  · obtain ⟨g, cap, rfl, hcap⟩ := hM.rowForm hi hz
    refine (Try.slices_Compact_int g 0 cap xs w (hM.holds hi) (by omega) hcap).mono ?_
    rintro e w' ⟨rfl, q, rfl⟩
    refine ⟨_, rfl, ?_⟩
    have hcl := Go.Lib.compact_length_le xs
    rw [Go.Lib.putRow_eq_setCells (Value.int .i64) w g 0 xs.toArray _ q (hM.holds hi) (by simp; omega)]
    have h2 := Mem.setCells (Go.Lib.compact xs ++ List.replicate (xs.length - (Go.Lib.compact xs).length) 0) 0 _ xs L (hM.drewN q) hi (by simp; omega)
    rw [List.take_zero, List.nil_append] at h2
    have h3 := h2.takeRow i (m := (Go.Lib.compact xs).length) (List.getElem?_set_self hil) (by simp)
    rw [List.set_set, List.take_left'  rfl] at h3
    exact h3
  · have hx : xs = [] := List.eq_nil_of_length_eq_zero (by omega)
    subst hx
    obtain ⟨A, cap, rfl, _, _⟩ := hM.rowSlice hi
    refine (Try.slices_Compact_int_empty A cap w).mono ?_
    rintro e w' ⟨rfl, rfl⟩
    refine ⟨_, rfl, ?_⟩
    exact hM.set_ hi (fun S hP => ⟨S, S, Chg.refl _ _, fun _ h => .inl h, fun _ h => .inl h, hP⟩)
end
end Go.Proofs.Ytlffephcbfdknaa.Wk
