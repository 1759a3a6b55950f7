/- Walks by hand: IndexFunc, ContainsFunc, Ends. -/
import Derived.Test.YtlffephcbfdknaaProg
import Derived.Test.YtlffephcbfdknaaKEv
import Derived.WalkKit
import Derived.KernelRfl
import Derived.Deep.LoopGhost
set_option linter.unusedVariables false
set_option linter.unusedSimpArgs false
namespace Go.Proofs.Ytlffephcbfdknaa.Wk
open Go.RowKit Go.Proofs.YtlffephcbfdknaaW.PrintWords Go.Proofs.YtlffephcbfdknaaW.PrintMore Go.Proofs.YtlffephcbfdknaaW.PrintLast Go.Proofs.Sep

theorem infoI : (Try.prog.info? 3).map (fun i => (i.zero, i.size, i.bytes)) = some (some (.int .i64 0), 1, 8) := by kernel_rfl
theorem infoB : (Try.prog.info? 4).map (fun i => (i.zero, i.size, i.bytes)) = some (some (.bool false), 1, 1) := by kernel_rfl
theorem infoU : (Try.prog.info? 5).map (fun i => (i.zero, i.size, i.bytes)) = some (some (.int .u8 0), 1, 1) := by kernel_rfl
theorem infoL : (Try.prog.info? 26).map (fun i => (i.zero, i.size, i.bytes)) = some (some (.slice none 0 0), 1, 24) := by kernel_rfl

/-- where the first one is for which it is so; -1: none -/
def idxF (p : Int → Bool) (xs : List Int) : Int := if xs.any p = true then (xs.findIdx p : Int) else -1

theorem idxF_at {p : Int → Bool} {xs : List Int} {k : Nat} (hk : k < xs.length) (h1 : p (rd xs k) = true) (h2 : ∀ j, j < k → p (rd xs j) = false) : idxF p xs = k := by
  have e : ∀ j (hj : j < xs.length), rd xs (j : Int) = xs[j] := fun j hj => by simp [rd, hj]
  have h3 : xs.any p = true := List.any_eq_true.2 ⟨xs[k], List.getElem_mem hk, by rw [← e k hk]; exact h1⟩
  rw [idxF, if_pos h3]
  congr 1
  rw [List.findIdx_eq hk]
  exact ⟨by rw [← e k hk]; exact h1, fun j hj => by rw [← e j (by omega)]; exact h2 j hj⟩
theorem idxF_none {p : Int → Bool} {xs : List Int} (h2 : ∀ j, j < xs.length → p (rd xs j) = false) : idxF p xs = -1 := by
  have e : ∀ j (hj : j < xs.length), rd xs (j : Int) = xs[j] := fun j hj => by simp [rd, hj]
  rw [idxF, if_neg]
  intro h
  obtain ⟨x, hx, hp⟩ := List.any_eq_true.1 h
  obtain ⟨j, hj, rfl⟩ := List.mem_iff_getElem.1 hx
  rw [← e j hj, h2 j hj] at hp
  cases hp
theorem idxF_ge (p : Int → Bool) (xs : List Int) : decide (0 ≤ idxF p xs) = xs.any p := by
  unfold idxF
  split
  · rename_i h; rw [h]; simp
  · rename_i h; rw [Bool.eq_false_iff.2 h]; rfl

/-- What a function value answers, of these numbers, whatever has been laid since W. -/
structure Asked (W : World) (v : Value) (p : Int → Bool) (xs : List Int) : Prop where
  out : ∃ (f : Nat) (fn : Func) (cap : Array Value), v = .func (.func f) #[] cap ∧ Try.prog.funcs[f]? = some fn ∧ (fn.name == "runtime.NumGoroutine") = false ∧ fn.body.isSome = true ∧
    ∀ n ∈ xs, ∀ w, Below W.heap.size W w → Calls Try.prog f (#[.int .i64 n] ++ cap) w fun e w' => e = .returned (.bool (p n)) ∧ Below w.heap.size w w'
theorem Asked.later {W w : World} {v : Value} {p : Int → Bool} {xs ys : List Int} (h : Asked W v p xs) (hb : Below W.heap.size W w) (hs : ∀ n ∈ ys, n ∈ xs) : Asked w v p ys := by
  obtain ⟨f, fn, cap, h1, h2, h3, h4, h5⟩ := h.out
  exact ⟨f, fn, cap, h1, h2, h3, h4, fun n hn w1 hb1 => h5 n (hs n hn) w1 (hb.trans (hb1.mono hb.size))⟩

set_option maxRecDepth 100000 in
theorem indexFunc (A : Option Addr) (c : Nat) (xs : List Int) (v : Value) (p : Int → Bool) (W : World) (hC : (Kd.int .i64).C W A xs.length xs) (hp : Asked W v p xs) :
    Calls Try.prog 54 #[.slice A xs.length c, v] W fun e w' => e = .returned (.int .i64 (idxF p xs)) ∧ Below W.heap.size W w' := by
  obtain ⟨f, fn, cap, rfl, hf, hname, hbody, hp⟩ := hp.out
  have hlen := hC.2.1
  have HC := Aside0.mk hC
  have HF := Aside0.mk hf
  have HN := Aside0.mk hname
  have HB := Aside0.mk hbody
  have HP := Aside0.mk hp
  clear hC hf hname hbody hp
  go_enter Try.func54, Try.ntmps54
  go_wp2
  go_loopg [5, 8] xs.length (fun gk v5 v8 w' => ∃ k : Nat, v8 = .int .i64 k ∧ Aside0 (gk + k = xs.length) ∧ Aside0 (∀ j : Nat, j < k → p (rd xs j) = false) ∧ Aside0 (Below W.heap.size W w'))
  case atStart => exact ⟨0, rfl, ⟨rfl⟩, ⟨fun j hj => absurd hj (by omega)⟩, ⟨Below.refl _ _⟩⟩
  case round =>
    obtain ⟨k, rfl, HK, HJ, HW⟩ := hrel
    have hk : k ≤ xs.length := by have := HK.out; omega
    by_cases hlt : k < xs.length
    · obtain ⟨ad, rfl, hcell⟩ := Kd.at_int (Kd.C_below HC.out HW.out) (k : Int) (by omega) (by omega)
      rw [Int.toNat_natCast] at hcell
      obtain ⟨n, hn⟩ : ∃ n, n = rd xs (k : Int) := ⟨_, rfl⟩
      rw [← hn] at hcell
      have hmem : n ∈ xs := by rw [hn]; simp only [rd, Int.toNat_natCast, List.getD_eq_getElem?_getD, List.getElem?_eq_getElem hlt, Option.getD_some]; exact List.getElem_mem hlt
      have HNk := Aside0.mk hn
      clear hn
      cases hpn : p n with
      | true =>
        have HPN := Aside0.mk hpn
        clear hpn
        go_wp2_with (((with_reducible refine gate_dst (N := 16) rfl ?_); refine goesV_ (some 16) rfl rfl HF.out HN.out HB.out (x := .tmp 11) (cap := cap) rfl rfl (#[.int .i64 n] ++ cap) (by (try simp only [List.map_toArray, List.map_cons, List.map_nil]); first | done | rfl) ?_; refine (HP.out n hmem _ HW.out).mono ?_; rintro e w1 ⟨rfl, hb1⟩; have HW1 := Aside0.mk (HW.out.trans (hb1.mono HW.out.size)); clear hb1; refine ⟨_, rfl, ?_⟩; rw [HPN.out]))
        go_ret
        exact ⟨by rw [idxF_at hlt (by rw [← HNk.out]; exact HPN.out) HJ.out]; rfl, HW1.out⟩
      | false =>
        have HPN := Aside0.mk hpn
        clear hpn
        go_wp2_with (((with_reducible refine gate_dst (N := 16) rfl ?_); refine goesV_ (some 16) rfl rfl HF.out HN.out HB.out (x := .tmp 11) (cap := cap) rfl rfl (#[.int .i64 n] ++ cap) (by (try simp only [List.map_toArray, List.map_cons, List.map_nil]); first | done | rfl) ?_; refine (HP.out n hmem _ HW.out).mono ?_; rintro e w1 ⟨rfl, hb1⟩; have HW1 := Aside0.mk (HW.out.trans (hb1.mono HW.out.size)); clear hb1; refine ⟨_, rfl, ?_⟩; rw [HPN.out]))
        go_roundg (gk - 1)
        case measure => have := HK.out; omega
        case rel => exact ⟨k + 1, by go_num, ⟨by have := HK.out; omega⟩, ⟨fun j hj => by
          rcases Nat.lt_or_ge j k with h | h
          · exact HJ.out j h
          · obtain rfl : j = k := by omega
            rw [← HNk.out]; exact HPN.out⟩, HW1⟩
    · obtain rfl : k = xs.length := by omega
      go_wp2
      go_ret
      exact ⟨by rw [idxF_none (fun j hj => HJ.out j (by omega))]; rfl, HW.out⟩

set_option maxRecDepth 100000 in
theorem containsFunc (A : Option Addr) (c : Nat) (xs : List Int) (v : Value) (p : Int → Bool) (W : World) (hC : (Kd.int .i64).C W A xs.length xs) (hp : Asked W v p xs) :
    Calls Try.prog 42 #[.slice A xs.length c, v] W fun e w' => e = .returned (.bool (xs.any p)) ∧ Below W.heap.size W w' := by
  have HC := Aside0.mk hC
  clear hC
  go_enter Try.func42, Try.ntmps42
  go_wp2_with (go_at_call 54; refine (indexFunc A c xs v p _ HC.out hp).mono ?_; rintro e w1 ⟨rfl, hb1⟩; have HW1 := Aside0.mk hb1; clear hb1)
  go_ret
  exact ⟨by rw [← idxF_ge]; rfl, HW1.out⟩

set_option maxRecDepth 100000 in
theorem ends_calls (A : Option Addr) (c : Nat) (sets : List (List Int)) (v : Value) (p : Int → Bool) (W : World) (hC : (Kd.slice 3 (Kd.int .i64)).C W A sets.length sets) (hl : sets.length ≤ 100000) (hp : ∀ s ∈ sets, Asked W v p s) :
    Calls Try.prog 23 #[.slice A sets.length c, v] W fun e w' => ∃ v0 : Value, e = .returned v0 ∧ Kd.R Kd.bool 4 w' W.heap.size (fun _ => True) v0 (sets.map (·.any p)) ∧ Below W.heap.size W w' := by
  have HC := Aside0.mk hC
  have HP := Aside0.mk hp
  clear hC hp
  go_enter Try.func23, Try.ntmps23
  go_wp2
  have HM0 := (Mem.start W).nil Kd.bool 4
  go_loopg [5, 7, 10] sets.length (fun gk v5 v7 v10 w' => ∃ k : Nat, v10 = .int .i64 k ∧ Aside0 (gk + k = sets.length) ∧ Mem W.heap.size (fun _ => False) W w' [row Kd.bool 4 v5 ((sets.take k).map (·.any p))])
  case atStart => exact ⟨0, rfl, ⟨rfl⟩, HM0⟩
  case round =>
    clear HM0
    obtain ⟨k, rfl, HK, HM⟩ := hrel
    have hk : k ≤ sets.length := by have := HK.out; omega
    by_cases hlt : k < sets.length
    · obtain ⟨ad, c1, e1, _, hK, hc1⟩ := Kd.C_get (Kd.C_below HC.out HM.below) ([] : List Int) (k : Int) (by omega) (by omega)
      subst e1
      obtain ⟨A1, n1, rfl, _, hC1⟩ := hK
      have hcell := hc1 0 _ rfl
      clear hc1
      rw [Int.toNat_natCast] at hcell hC1
      simp only [Kd.slice, Nat.mul_one, Nat.add_zero] at hcell
      obtain ⟨s, hs⟩ : ∃ s, s = sets.getD k [] := ⟨_, rfl⟩
      rw [← hs] at hcell hC1
      have hmem : s ∈ sets := by rw [hs, List.getD_eq_getElem?_getD, List.getElem?_eq_getElem hlt]; exact List.getElem_mem hlt
      have htake : (sets.take (k + 1)).map (·.any p) = (sets.take k).map (·.any p) ++ [s.any p] := by
        rw [List.take_succ_eq_append_getElem hlt, List.map_append, hs, List.getD_eq_getElem?_getD, List.getElem?_eq_getElem hlt]; rfl
      have HT := Aside0.mk htake
      have HC1 := Aside0.mk hC1
      have HS := Aside0.mk hs
      clear htake hC1 hs
      obtain ⟨bs, hbs⟩ : ∃ bs, bs = (sets.take k).map (·.any p) := ⟨_, rfl⟩
      have hbl : bs.length ≤ k := by rw [hbs]; simp [List.length_take]; omega
      rw [← hbs] at HM HT
      clear hbs
      go_wp2_with (first
        | (go_at_call 42; refine (containsFunc A1 n1 s v p _ HC1.out ((HP.out s hmem).later HM.below (fun _ h => h))).mono ?_; rintro e w1 ⟨rfl, hb1⟩; have HM1 := HM.grow hb1; clear HM hb1)
        | ((with_reducible refine gate_dst (N := 19) rfl ?_); (refine HM1.append1 0 rfl (.tmp 14) (.tmp 18) 23 4 (.bool false) 1 rfl Try.underlying23 infoB rfl (by decide) _ bs (s.any p) rfl rfl rfl (by omega) ?_; intro v1 w2 HM2; clear HM1)))
      go_roundg (gk - 1)
      case measure => have := HK.out; omega
      case rel => exact ⟨k + 1, by go_num, ⟨by have := HK.out; omega⟩, by rw [HT.out]; exact HM2⟩
    · obtain rfl : k = sets.length := by omega
      go_wp2
      go_ret
      refine ⟨_, rfl, ?_, HM.below⟩
      have h := HM.rowAt (i := 0) rfl
      rw [List.take_length] at h
      exact h
end Go.Proofs.Ytlffephcbfdknaa.Wk
