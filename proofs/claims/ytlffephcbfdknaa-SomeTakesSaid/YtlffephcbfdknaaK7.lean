/- Several texts in one: Walks by hand: the reference's Radix, DigitOf, PackOf. -/
import Derived.Test.YtlffephcbfdknaaK6
import Derived.Deep.QuietTactic
import Derived.BigQuiet
/- Walks by hand: the reference's Radix, DigitOf, PackOf. -/
set_option linter.unusedVariables false
set_option linter.unusedSimpArgs false
namespace Go.Proofs.Ytlffephcbfdknaa.Wk
open Go.RowKit Go.Proofs.YtlffephcbfdknaaW.PrintWords Go.Proofs.YtlffephcbfdknaaW.PrintMore Go.Proofs.YtlffephcbfdknaaW.PrintLast Go.Proofs.Sep Go.Proofs.Fil Go.Proofs.Ytlffephcbfdknaa.Chk Go.Proofs.Ytlffephcbfdknaa.Tbl

theorem wrap_small {z : Int} (h0 : 0 ≤ z) (h1 : z ≤ 1000000) : wrap64 z = z := by unfold wrap64; omega
theorem kwrap_small {z : Int} (h0 : 0 ≤ z) (h1 : z ≤ 1000000) : IntKind.i64.wrap z = z := by rw [i64_w, wrap_small h0 h1]
theorem div_small {a k : Nat} (h : a < 1000) : wrap64 ((a : Int) / (k : Int)) = ((a / k : Nat) : Int) := by
  have h2 : a / k ≤ a := Nat.div_le_self _ _
  rw [← Int.natCast_ediv]
  generalize a / k = d at h2
  exact wrap_small (by omega) (by omega)
theorem mod_small (a k : Nat) : (a : Int).tmod (k : Int) = ((a % k : Nat) : Int) := by
  rw [Int.tmod_eq_emod_of_nonneg (by omega)]
  rfl
theorem refRadix_calls (base : Int) (h1 : 1 ≤ base) (h6 : base ≤ 6) (w : World) : Calls Try.prog 31 #[.int .i64 base] w fun e w' => e = .returned (.int .i64 ((radix base : Nat) : Int)) ∧ w' = w := by
  by_cases e : base = 1
  · subst e
    go_enter Try.func31, Try.ntmps31
    go_wp2
    go_ret
    exact ⟨rfl, rfl⟩
  · have hr : ((radix base : Nat) : Int) = base := by
      unfold radix
      rw [if_neg e, if_pos (by omega)]
      omega
    rw [hr]
    clear hr
    have e' : (base == 1) = false := by simpa using e
    have e2 : ¬ base < 2 := by omega
    have e3 : ¬ 6 < base := by omega
    go_enter Try.func31, Try.ntmps31
    go_wp2
    go_ret
    exact ⟨rfl, rfl⟩
theorem digitOf_calls (base : Int) (h1 : 1 ≤ base) (h6 : base ≤ 6) (T : Nat) (hT : T ≤ 5) (l : Nat) (hl : l < 100) (t : Nat) (ht : t < T) (w : World) :
    Calls Try.prog 30 #[.int .i64 base, .int .i64 (T : Int), .int .i64 (l : Int), .int .i64 (t : Int)] w fun e w' => e = .returned (.int .i64 ((l / radix base ^ (T - 1 - t) % radix base : Nat) : Int)) ∧ w' = w := by
  have hk6 := radix_le base
  have hkp : 0 < radix base := by
    unfold radix
    split
    · omega
    · split <;> omega
  have HR := Aside0.mk (refRadix_calls base h1 h6 w)
  obtain ⟨k0, hk0⟩ : ∃ k0, k0 = radix base := ⟨_, rfl⟩
  rw [← hk0] at HR hk6 hkp ⊢
  clear hk0
  go_enter Try.func30, Try.ntmps30
  go_wp2_with (go_at_call 31; refine HR.out.mono ?_; rintro e w1 ⟨rfl, hw1⟩; rw [hw1]; clear hw1 w1)
  go_loopg [2, 10] (T - 1 - t) (fun gk v2 v10 w' => ∃ (a i : Nat), v10 = .int .i64 (i : Int) ∧ v2 = .int .i64 (a : Int) ∧ Aside0 (gk = i - t ∧ t ≤ i ∧ i < T ∧ a = l / k0 ^ (T - 1 - i)) ∧ Aside0 (a < 100) ∧ Aside0 (w' = w))
  case atStart => exact ⟨l, T - 1, (by congr 1; omega), rfl, ⟨rfl, by omega, by omega, by rw [show T - 1 - (T - 1) = 0 by omega]; simp⟩, ⟨hl⟩, ⟨rfl⟩⟩
  case round =>
    obtain ⟨g1, rfl⟩ : ∃ x : Nat, x = gk := ⟨_, rfl⟩
    obtain ⟨a, i, rfl, rfl, HK, HA, HW⟩ := hrel
    have hi : t ≤ i := HK.out.2.1
    have hiT : i < T := HK.out.2.2.1
    have ha := HA.out
    by_cases hlt : t < i
    · have e1 : ((i : Int) - 1) = ((i - 1 : Nat) : Int) := by omega
      have e2 : a / k0 = l / k0 ^ (T - 1 - (i - 1)) := by rw [HK.out.2.2.2, Nat.div_div_eq_div_mul, ← Nat.pow_succ]; congr 2; omega
      have ha2 : a / k0 < 100 := Nat.lt_of_le_of_lt (Nat.div_le_self _ _) ha
      have E1 := Aside0.mk e1
      have E2 := Aside0.mk e2
      have HA2 := Aside0.mk ha2
      clear e1 e2 ha2
      go_wp2
      go_roundg (g1 - 1)
      case measure => have := HK.out.1; omega
      case rel => exact ⟨a / k0, i - 1, (by rw [← E1.out]), (by rw [div_small (by omega)]), ⟨by have := HK.out.1; omega, by omega, by omega, E2.out⟩, HA2, HW⟩
    · obtain rfl : i = t := by omega
      have E2 := Aside0.mk HK.out.2.2.2
      go_wp2
      go_ret
      refine ⟨?_, HW.out⟩
      rw [← E2.out]
      show Ending.returned (.int .i64 _) = _
      rw [← mod_small]
      rfl
/-- digits put together -/
def packN (k : Nat) (xs : List Nat) : Nat := xs.foldl (fun a x => a * k + x) 0
theorem packN_snoc (k : Nat) (xs : List Nat) (x : Nat) : packN k (xs ++ [x]) = packN k xs * k + x := by simp [packN, List.foldl_append]
theorem packN_lt {k : Nat} (hk : 0 < k) {xs : List Nat} (h : ∀ x ∈ xs, x < k) : packN k xs < k ^ xs.length := by
  induction xs using snocInd with
  | nil => simp [packN]
  | snoc xs x ih =>
    have h1 := ih (fun y hy => h y (List.mem_append_left _ hy))
    have h2 := h x (by simp)
    rw [packN_snoc, List.length_append, List.length_singleton, Nat.pow_succ]
    have h3 : (packN k xs + 1) * k ≤ k ^ xs.length * k := Nat.mul_le_mul_right k h1
    rw [Nat.add_mul] at h3
    omega
theorem packOf_calls (base : Int) (h1 : 1 ≤ base) (h6 : base ≤ 6) (A : Option Addr) (c : Nat) (xs : List Nat) (hx : ∀ x ∈ xs, x < radix base) (hlen : xs.length ≤ 5) (w : World) (hC : kI.C w A xs.length (I xs)) :
    Calls Try.prog 32 #[.int .i64 base, .slice A xs.length c] w fun e w' => e = .returned (.int .i64 ((packN (radix base) xs : Nat) : Int)) ∧ Below w.heap.size w w' := by
  have hk6 := radix_le base
  have hkp : 0 < radix base := by
    unfold radix
    split
    · omega
    · split <;> omega
  have HRC := Aside0.mk (fun w => refRadix_calls base h1 h6 w)
  obtain ⟨k0, hk0⟩ : ∃ k0, k0 = radix base := ⟨_, rfl⟩
  rw [← hk0] at HRC hk6 hkp hx ⊢
  clear hk0
  have HX := Aside0.mk hx
  have HC := Aside0.mk hC
  clear hx hC
  go_enter Try.func32, Try.ntmps32
  go_wp2
  go_loopg [5, 6] xs.length (fun gk v5 v6 w' => ∃ j : Nat, v6 = .int .i64 (j : Int) ∧ v5 = .int .i64 ((packN k0 (xs.take j) : Nat) : Int) ∧ Aside0 (gk + j = xs.length) ∧ Aside0 (Below w.heap.size w w'))
  case atStart => exact ⟨0, rfl, rfl, ⟨rfl⟩, ⟨Below.refl _ _⟩⟩
  case round =>
    obtain ⟨g1, rfl⟩ : ∃ x : Nat, x = gk := ⟨_, rfl⟩
    obtain ⟨w1, rfl⟩ : ∃ x : World, x = wr := ⟨_, rfl⟩
    obtain ⟨j, rfl, rfl, HK, HW⟩ := hrel
    have hjl : j ≤ xs.length := by have := HK.out; omega
    by_cases hlt : j < xs.length
    · obtain ⟨ad, e1, hcell⟩ := Kd.at_int (show kI.C w1 A (I xs).length (I xs) by rw [I_len]; exact Kd.C_below HC.out HW.out) (j : Int) (by omega) (by rw [I_len]; omega)
      subst e1
      rw [Int.toNat_natCast, rd_I] at hcell
      obtain ⟨x, hxx⟩ : ∃ x, x = xs.getD j 0 := ⟨_, rfl⟩
      rw [← hxx] at hcell
      have hxk : x < k0 := HX.out x (by rw [hxx, getD_at hlt]; exact List.getElem_mem hlt)
      have hs : packN k0 (xs.take (j + 1)) = packN k0 (xs.take j) * k0 + x := by rw [take_snoc' hlt, packN_snoc, hxx, getD_at hlt]
      have hb := packN_lt hkp (xs := xs.take j) (fun y hy => HX.out y (List.mem_of_mem_take hy))
      have hb2 : packN k0 (xs.take j) < 7776 := by
        refine Nat.lt_of_lt_of_le hb (Nat.le_trans (Nat.pow_le_pow_right hkp (show (xs.take j).length ≤ 5 by rw [List.length_take]; omega)) ?_)
        exact Nat.le_trans (Nat.pow_le_pow_left hk6 5) (by decide)
      obtain ⟨p, hp⟩ : ∃ p, p = packN k0 (xs.take j) := ⟨_, rfl⟩
      rw [← hp] at hs hb2 ⊢
      have hpk : p * k0 ≤ 100000 := Nat.le_trans (Nat.mul_le_mul (Nat.le_of_lt hb2) hk6) (by decide)
      have e1 : (p : Int) * (k0 : Int) = ((p * k0 : Nat) : Int) := by push_cast; rfl
      obtain ⟨q, hq⟩ : ∃ q, q = p * k0 := ⟨_, rfl⟩
      rw [← hq] at e1 hpk hs
      have e2 : IntKind.i64.wrap ((p : Int) * (k0 : Int)) = (q : Int) := by rw [e1]; exact kwrap_small (by omega) (by omega)
      have e3 : IntKind.i64.wrap ((q : Int) + (x : Int)) = ((q + x : Nat) : Int) := by rw [kwrap_small (by omega) (by omega)]; push_cast; rfl
      have HS := Aside0.mk hs
      clear hs hp hb hq hxx e1
      go_wp2_with fail
      go_quiet ((go_at_call 31; exact Calls.quiet_of_same (HRC.out _)))
      go_wp2
      go_roundg (g1 - 1)
      case measure => have := HK.out; omega
      case rel => exact ⟨j + 1, by go_num, (by rw [HS.out]; go_num), ⟨by have := HK.out; omega⟩, ⟨HW.out.trans (pw_below_drewN (Below.refl _ _) _ |>.mono HW.out.size)⟩⟩
    · obtain rfl : j = xs.length := by omega
      rw [List.take_length]
      go_wp2
      go_ret
      exact ⟨rfl, HW.out⟩
end Go.Proofs.Ytlffephcbfdknaa.Wk

/- Walk by hand: the reference's Without. -/
set_option linter.unusedVariables false
set_option linter.unusedSimpArgs false
namespace Go.Proofs.Ytlffephcbfdknaa.Wk
open Go.RowKit Go.Proofs.YtlffephcbfdknaaW.PrintWords Go.Proofs.YtlffephcbfdknaaW.PrintMore Go.Proofs.YtlffephcbfdknaaW.PrintLast Go.Proofs.Sep Go.Proofs.Fil Go.Proofs.Ytlffephcbfdknaa.Chk Go.Proofs.Ytlffephcbfdknaa.Tbl

/-- the digits, one track after the other; with a digit put in -/
def dsN (k M l : Nat) : List Nat := (List.range M).map fun i => l / k ^ (M - 1 - i) % k
def woN (k M t l x : Nat) : Nat := packN k ((dsN k M l).take t ++ x :: (dsN k M l).drop t)
def chk2 (b T : Nat) : Bool := match manyN b T with
  | none => true
  | some n => (List.range T).all fun t => (List.range (radix b ^ (T - 1))).all fun l => decide ((List.range (radix b)).map (woN (radix b) (T - 1) t l) = wtab (radix b) T t l)
theorem chk2_all : ∀ b : Fin 7, ∀ T : Fin 6, chk2 b.val T.val = true := by decide +kernel
theorem wo_eq {base tracks : Int} {n : Nat} (h : manyN base tracks = some n) {t l : Nat} (ht : (t : Int) < tracks) (hl : l < sN base tracks) : (List.range (radix base)).map (woN (radix base) (tracks.toNat - 1) t l) = sW base tracks t l := by
  obtain ⟨h1, h2, h3, h4, h5, h6⟩ := many_range h
  have hk := chk2_all ⟨base.toNat, by omega⟩ ⟨tracks.toNat, by omega⟩
  unfold chk2 at hk
  simp only [Int.toNat_of_nonneg (show 0 ≤ base by omega), Int.toNat_of_nonneg h3, h] at hk
  exact of_decide_eq_true (List.all_eq_true.1 (List.all_eq_true.1 hk t (List.mem_range.2 (by omega))) l (List.mem_range.2 hl))
theorem dsN_len (k M l : Nat) : (dsN k M l).length = M := by simp [dsN]
theorem dsN_lt {k M l : Nat} (hk : 0 < k) : ∀ x ∈ dsN k M l, x < k := by
  intro x hx
  obtain ⟨i, _, rfl⟩ := List.mem_map.1 hx
  exact Nat.mod_lt _ hk
theorem I_take (a : List Nat) (n : Nat) : (I a).take n = I (a.take n) := by simp [I, List.map_take]
theorem I_drop (a : List Nat) (n : Nat) : (I a).drop n = I (a.drop n) := by simp [I, List.map_drop]
theorem range_map_snoc {α : Type} (f : Nat → α) (i : Nat) : (List.range (i + 1)).map f = (List.range i).map f ++ [f i] := by rw [List.range_succ, List.map_append]; rfl

set_option maxRecDepth 100000 in
set_option maxHeartbeats 4000000 in
theorem without_calls (base tracks : Int) (n : Nat) (hm : manyN base tracks = some n) (tr : Nat) (htl : ((tr : Nat) : Int) < tracks) (l : Nat) (hl : l < sN base tracks) (W : World) :
    Calls Try.prog 14 #[.int .i64 base, .int .i64 tracks, .int .i64 (tr : Int), .int .i64 (l : Int)] W fun e w' => ∃ v', e = .returned v' ∧ kI.R 3 w' W.heap.size (fun _ => True) v' (I (sW base tracks tr l)) ∧ Below W.heap.size W w' := by
  have hwo := wo_eq hm htl hl
  obtain ⟨hb1, hb6, ht0, ht5, _, hk0⟩ := many_range hm
  have hl36 : l < 100 := by
    have h1 := manyN_le (many_less hm (by omega))
    unfold sN at hl
    omega
  have hk6 := radix_le base
  obtain ⟨M, hM⟩ : ∃ M, M = tracks.toNat - 1 := ⟨_, rfl⟩
  have htM : tr ≤ M := by omega
  have hM4 : M ≤ 4 := by omega
  rw [← hM] at hwo
  have HD := Aside0.mk (fun (i : Nat) (hi : i < M) (w : World) => digitOf_calls base hb1 hb6 M (by omega) l hl36 i hi w)
  have HR := Aside0.mk (fun w => refRadix_calls base hb1 hb6 w)
  have HPK := Aside0.mk (packOf_calls base hb1 hb6)
  have HDL := Aside0.mk (dsN_len (radix base) M l)
  have HDX := Aside0.mk (dsN_lt (M := M) (l := l) hk0)
  have hwon : ∀ x, woN (radix base) M tr l x = packN (radix base) ((dsN (radix base) M l).take tr ++ x :: (dsN (radix base) M l).drop tr) := fun x => rfl
  have hds : ∀ i, i < M → l / radix base ^ (M - 1 - i) % radix base = (dsN (radix base) M l).getD i 0 := fun i hi => by
    rw [getD_at (by rw [dsN_len]; exact hi)]
    simp [dsN]
  obtain ⟨k0, hk0e⟩ : ∃ k0, k0 = radix base := ⟨_, rfl⟩
  rw [← hk0e] at HD HR HPK HDL HDX hwo hk6 hk0 hwon hds
  obtain ⟨ds, hdse⟩ : ∃ ds, ds = dsN k0 M l := ⟨_, rfl⟩
  rw [← hdse] at HDL HDX hwon hds
  obtain ⟨wo, hwoe⟩ : ∃ wo, wo = woN k0 M tr l := ⟨_, rfl⟩
  rw [← hwoe] at hwo hwon
  have HWO := Aside0.mk hwo
  have HWN := Aside0.mk hwon
  have HDS := Aside0.mk hds
  obtain rfl : tracks = (M : Int) + 1 := by omega
  clear hwo hwon hds hM hk0e hdse hwoe
  go_enter Try.func14, Try.ntmps14
  have HM := (Mem.start W).nil kI 3
  go_upto_block 0 with fail
  go_cut [9] (fun v9 wc => Mem W.heap.size (fun _ => False) W wc [row kI 3 v9 (I ds)])
  case first =>
    go_wp2
    go_loopg [9, 10] M (fun gk v9 v10 w' => ∃ i : Nat, v10 = .int .i64 (i : Int) ∧ Aside0 (gk + i = M) ∧ Mem W.heap.size (fun _ => False) W w' [row kI 3 v9 (I (ds.take i))])
    case atStart => exact ⟨0, rfl, ⟨rfl⟩, HM⟩
    case round =>
      clear HM
      obtain ⟨g1, rfl⟩ : ∃ x : Nat, x = gk := ⟨_, rfl⟩
      obtain ⟨w10, rfl⟩ : ∃ x : World, x = wr := ⟨_, rfl⟩
      obtain ⟨i, rfl, HK, HM⟩ := hrel
      have hiM : i ≤ M := by have := HK.out; omega
      by_cases hlt : i < M
      · have hd := HD.out i hlt
        rw [HDS.out i hlt] at hd
        obtain ⟨d, hdd⟩ : ∃ d, d = ds.getD i 0 := ⟨_, rfl⟩
        rw [← hdd] at hd
        have hst : I (ds.take (i + 1)) = I (ds.take i) ++ [(d : Int)] := by rw [take_snoc' (by rw [HDL.out]; exact hlt), I_snoc, hdd, getD_at (by rw [HDL.out]; exact hlt)]
        have hlen : (I (ds.take i)).length ≤ 4 := by rw [I_len, List.length_take]; omega
        have hli : (i : Int) < (M : Int) := by omega
        have HDD := Aside0.mk hd
        have HST := Aside0.mk hst
        clear hd hst hdd
        go_wp2_with (first
          | (go_at_call 30; (refine (HDD.out _).mono ?_; rintro e w1 ⟨rfl, hw1⟩; rw [hw1]; clear hw1 w1))
          | ((with_reducible refine gate_dst (N := 28) rfl ?_); (refine HM.append1 0 rfl (.tmp 20) (.tmp 27) 26 3 (.int .i64 0) 8 rfl Try.underlying26 infoI rfl (by decide) _ (I (ds.take i)) (d : Int) rfl rfl rfl (by omega) ?_; intro v28 w11 HM1; clear HM; rw [← HST.out] at HM1)))
        go_roundg (g1 - 1)
        case measure => have := HK.out; omega
        case rel => exact ⟨i + 1, by go_num, ⟨by have := HK.out; omega⟩, HM1⟩
      · obtain rfl : i = M := by omega
        rw [List.take_of_length_le (by rw [HDL.out]; exact Nat.le_refl _)] at HM
        go_wp2
        go_meet
        case rel => exact HM
  case rest =>
    clear HM
    have HM := hcut
    clear hcut
    obtain ⟨A9, c9, e9, hc9, _⟩ := HM.rowSlice (i := 0) rfl
    subst e9
    rw [I_len, HDL.out] at HM hc9
    rw [I_len, HDL.out]
    have HM0 := (HM.nil kI 3)
    clear HM
    have HC9 := Aside0.mk hc9
    clear hc9
    have HN1 := Aside0.mk (show (tr : Int) ≤ (M : Int) by omega)
    go_wp2
    go_loopg [11, 12, 13] k0 (fun gk v11 v12 v13 w' => ∃ x : Nat, v12 = .int .i64 (x : Int) ∧ Aside0 (gk + x = k0) ∧ Mem W.heap.size (fun _ => False) W w' [row kI 3 v11 (I ((List.range x).map wo)), row kI 3 (.slice A9 M c9) (I ds)])
    case atStart => exact ⟨0, rfl, ⟨rfl⟩, HM0⟩
    case round =>
      clear HM0
      obtain ⟨g1, rfl⟩ : ∃ x : Nat, x = gk := ⟨_, rfl⟩
      obtain ⟨w10, rfl⟩ : ∃ x : World, x = wr := ⟨_, rfl⟩
      obtain ⟨x, rfl, HK, HM⟩ := hrel
      have hxk : x ≤ k0 := by have := HK.out; omega
      by_cases hlt : x < k0
      · have hltI : (x : Int) < (k0 : Int) := by omega
        obtain ⟨xs, hxs⟩ : ∃ xs, xs = ds.take tr ++ x :: ds.drop tr := ⟨_, rfl⟩
        have hxl : xs.length = M + 1 := by rw [hxs]; simp [HDL.out]; omega
        have hxx : ∀ y ∈ xs, y < k0 := by
          intro y hy
          rw [hxs] at hy
          rcases List.mem_append.1 hy with h | h
          · exact HDX.out y (List.mem_of_mem_take h)
          · rcases List.mem_cons.1 h with h | h
            · omega
            · exact HDX.out y (List.mem_of_mem_drop h)
        have hII : ([] ++ I (ds.take tr) ++ [(x : Int)]) ++ I (ds.drop tr) = I xs := by rw [hxs]; simp [I]
        have hpk := packN k0 xs
        have hwx : wo x = packN k0 xs := by rw [HWN.out x, hxs]
        have hlast : I ((List.range (x + 1)).map wo) = I ((List.range x).map wo) ++ [((packN k0 xs : Nat) : Int)] := by rw [range_map_snoc, I_snoc, hwx]
        obtain ⟨q, hq⟩ : ∃ q, q = packN k0 xs := ⟨_, rfl⟩
        rw [← hq] at hlast
        have HXL := Aside0.mk hxl
        have HXX := Aside0.mk hxx
        have HII := Aside0.mk hII
        have HLA := Aside0.mk hlast
        have HQ := Aside0.mk hq
        have HLT := Aside0.mk (show (I (ds.take tr)).length ≤ 4 by rw [I_len, List.length_take]; omega)
        have HLD := Aside0.mk (show (I (ds.drop tr)).length ≤ 4 by rw [I_len, List.length_drop, HDL.out]; omega)
        have HLW := Aside0.mk (show (I ((List.range x).map wo)).length ≤ 6 by rw [I_len, List.length_map, List.length_range]; omega)
        obtain ⟨i0, hi0, _, hsz0, _⟩ := info_parts infoI
        have hcutA := cut_to (P := Try.prog) 26 3 .i64 Try.underlying26 hi0 A9 M c9 (tr : Int) (by omega) HN1.out HC9.out
        have hcutB := cut_from (P := Try.prog) 26 3 .i64 Try.underlying26 hi0 1 hsz0 A9 M c9 (tr : Int) (by omega) HN1.out
        simp only [Int.toNat_natCast] at hcutA hcutB
        obtain ⟨A24, hA24⟩ : ∃ A1, A1 = (if c9 = tr then A9 else A9.map (·.add (tr * 1))) := ⟨_, rfl⟩
        rw [← hA24] at hcutB
        have HA24 := Aside0.mk hA24
        have hCt : ∀ (w : World), kI.C w A9 (I ds).length (I ds) → kI.C w A9 tr (I (ds.take tr)) ∧ kI.C w A24 (M - tr) (I (ds.drop tr)) := fun w h => by
          have e1 : (I ds).length = M := by rw [I_len, HDL.out]
          have h1 := Kd.C_take (m := tr) (xs := I ds) h (by rw [e1]; exact htM)
          have h2 := Kd.C_drop (m := tr) (c := c9) (xs := I ds) h (by rw [e1]; exact htM) (by rw [e1]; exact HC9.out)
          rw [I_take] at h1
          rw [I_drop] at h2
          rw [I_len, List.length_take, HDL.out, Nat.min_eq_left htM] at h1
          rw [I_len, List.length_drop, HDL.out] at h2
          exact ⟨h1, by rw [HA24.out]; exact h2⟩
        have HCT := Aside0.mk hCt
        clear hxl hxx hII hlast hq hxs hwx hCt hA24 hi0 hsz0 hpk hltI
        go_wp2_with (first
          | (go_at_call 31; (refine (HR.out _).mono ?_; rintro e w1 ⟨rfl, hw1⟩; rw [hw1]; clear hw1 w1))
          | ((with_reducible refine gate_dst (N := 39) rfl ?_); (refine (HM.nil kI 3).appendAll (0 : Int) 0 rfl (.tmp 35) (.tmp 38) 26 3 (.int .i64 0) 8 rfl Try.underlying26 infoI rfl (by decide) _ [] (I (ds.take tr)) A9 tr c9 rfl rfl rfl (HCT.out _ (Kd.R_reads' (HM.rowAt (i := 1) rfl)).2.2).1 (by show (0 + tr) * 8 ≤ _; omega) ?_; intro v39 w11 HM1; clear HM))
          | ((with_reducible refine gate_dst (N := 43) rfl ?_); (refine HM1.append1 0 rfl (.tmp 40) (.tmp 42) 26 3 (.int .i64 0) 8 rfl Try.underlying26 infoI rfl (by decide) _ ([] ++ I (ds.take tr)) (x : Int) rfl rfl rfl (by have := HLT.out; show ((I (ds.take tr)).length + 1) * 8 ≤ _; omega) ?_; intro v43 w12 HM2; clear HM1))
          | ((with_reducible refine gate_dst (N := 48) rfl ?_); (refine HM2.appendAll (0 : Int) 0 rfl (.tmp 44) (.tmp 47) 26 3 (.int .i64 0) 8 rfl Try.underlying26 infoI rfl (by decide) _ ([] ++ I (ds.take tr) ++ [(x : Int)]) (I (ds.drop tr)) A24 (M - tr) (c9 - tr) rfl rfl rfl (HCT.out _ (Kd.R_reads' (HM2.rowAt (i := 2) rfl)).2.2).2 (by have := HLT.out; rw [List.length_append]; show ((I (ds.take tr)).length + 1 + (M - tr)) * 8 ≤ _; omega) ?_; intro v48 w13 HM3; clear HM2; rw [HII.out] at HM3; obtain ⟨A48, c48, e48, hc48, hC48⟩ := HM3.rowSlice (i := 0) rfl; subst e48; rw [I_len] at HM3 hc48 hC48 ⊢; have HC48 := Aside0.mk hC48; clear hC48))
          | (go_at_call 32; (refine (HPK.out A48 c48 xs HXX.out (by rw [HXL.out]; omega) _ HC48.out).mono ?_; rintro e w14 ⟨rfl, hb⟩; have HM4 := HM3.grow hb; clear HM3 hb; rw [← HQ.out]))
          | ((with_reducible refine gate_dst (N := 54) rfl ?_); (refine HM4.append1 1 rfl (.tmp 49) (.tmp 53) 26 3 (.int .i64 0) 8 rfl Try.underlying26 infoI rfl (by decide) _ (I ((List.range x).map wo)) (q : Int) rfl rfl rfl (by have := HLW.out; omega) ?_; intro v54 w15 HM5; clear HM4; rw [← HLA.out] at HM5)))
        go_roundg (g1 - 1)
        case measure => have := HK.out; omega
        case rel => exact ⟨x + 1, by go_num, ⟨by have := HK.out; omega⟩, HM5.drop 0⟩
      · obtain rfl : k0 = x := by omega
        rw [HWO.out] at HM
        go_wp2_with (go_at_call 31; (refine (HR.out _).mono ?_; rintro e w1 ⟨rfl, hw1⟩; rw [hw1]; clear hw1 w1))
        refine bodyPost_ret (results_single rfl (.tmp .nil)) (by rfl) ⟨_, rfl, HM.rowAt (i := 0) rfl, HM.below⟩
end Go.Proofs.Ytlffephcbfdknaa.Wk
