/- Several texts in one: What letter.Unpack and letter.Pack answer where a digit is put in: a table. -/
import Derived.Test.YtlffephcbfdknaaKChk
import Derived.Test.YtlffephcbfdknaaPSomeTakesx3
import Derived.Test.YtlffephcbfdknaaK9
/- What letter.Unpack and letter.Pack answer where a digit is put in: a table. -/
set_option linter.unusedVariables false
set_option linter.unusedSimpArgs false
namespace Go.Proofs.Ytlffephcbfdknaa.Tbl
open Go.RowKit Go.Proofs.YtlffephcbfdknaaW.PrintWords Go.Proofs.YtlffephcbfdknaaW.PrintMore Go.Proofs.YtlffephcbfdknaaW.PrintLast Go.Proofs.Fil Go.Proofs.Ytlffephcbfdknaa.Chk
/-- the digits of a letter -/
def digs (k : Nat) : Nat → Nat → List Nat
  | 0, _ => []
  | T + 1, l => digs k T (l / k) ++ [l % k]
/-- a letter of one track less, with a digit put in -/
def wcode (k T t l x : Nat) : Nat := (l / k ^ (T - 1 - t) * k + x) * k ^ (T - 1 - t) + l % k ^ (T - 1 - t)
/-- the letters that have a letter of the others, and any digit on a track -/
def wtab (k T t l : Nat) : List Nat := (List.range k).map (wcode k T t l)
def insI (d : List Nat) (t : Nat) (x : Nat) : List Int := (I d).take t ++ (x : Int) :: (I d).drop t
def chk1 (b T : Nat) : Bool := match manyN b T with
  | none => true
  | some n => (List.range T).all fun t => (List.range (radix b ^ (T - 1))).all fun l =>
      decide (Go.Proofs.Ytlffephcbfdknaa.PSomeTakes.letter_Unpack.f 40 b ((T : Int) - 1) l = some (I (digs (radix b) (T - 1) l), none)) && decide ((digs (radix b) (T - 1) l).length = T - 1) &&
      (List.range (radix b)).all fun x => decide (Go.Proofs.Ytlffephcbfdknaa.PSomeTakes.letter_Pack.f 40 b (insI (digs (radix b) (T - 1) l) t x) = some ((wcode (radix b) T t l x : Int), none)) && decide (wcode (radix b) T t l x < n)
theorem chk1_all : ∀ b : Fin 7, ∀ T : Fin 6, chk1 b.val T.val = true := by decide +kernel
theorem many_range {base tracks : Int} {n : Nat} (h : manyN base tracks = some n) : 1 ≤ base ∧ base ≤ 6 ∧ 0 ≤ tracks ∧ tracks ≤ 5 ∧ n = radix base ^ tracks.toNat ∧ 0 < radix base := by
  unfold manyN at h
  split at h
  · cases h
  · rename_i h1
    split at h
    · injection h with h
      have hr : radix base ≠ 0 := fun h2 => h1 (.inl h2)
      have hb : 1 ≤ base ∧ base ≤ 6 := by
        unfold radix at hr
        split at hr
        · omega
        · split at hr
          · omega
          · exact absurd rfl hr
      exact ⟨hb.1, hb.2, by omega, by omega, h.symm, Nat.pos_of_ne_zero hr⟩
    · cases h
theorem many_less {base tracks : Int} {n : Nat} (h : manyN base tracks = some n) (ht : 0 < tracks) : manyN base (tracks - 1) = some (radix base ^ (tracks.toNat - 1)) := by
  obtain ⟨h1, h2, h3, h4, h5, h6⟩ := many_range h
  have hn := manyN_le h
  unfold manyN
  rw [if_neg (by omega)]
  have e : (tracks - 1).toNat = tracks.toNat - 1 := by omega
  rw [e, if_pos]
  refine Nat.le_trans (Nat.pow_le_pow_right h6 (Nat.sub_le _ _)) ?_
  omega
theorem put_in {base tracks : Int} {n : Nat} (h : manyN base tracks = some n) {t l : Nat} (ht : (t : Int) < tracks) (hl : l < radix base ^ (tracks.toNat - 1)) :
    Go.Proofs.Ytlffephcbfdknaa.PSomeTakes.letter_Unpack.f 40 base (tracks - 1) l = some (I (digs (radix base) (tracks.toNat - 1) l), none) ∧ (digs (radix base) (tracks.toNat - 1) l).length = tracks.toNat - 1 ∧
    ∀ x, x < radix base → Go.Proofs.Ytlffephcbfdknaa.PSomeTakes.letter_Pack.f 40 base (insI (digs (radix base) (tracks.toNat - 1) l) t x) = some ((wcode (radix base) tracks.toNat t l x : Int), none) ∧ wcode (radix base) tracks.toNat t l x < n := by
  obtain ⟨h1, h2, h3, h4, h5, h6⟩ := many_range h
  have hk := chk1_all ⟨base.toNat, by omega⟩ ⟨tracks.toNat, by omega⟩
  unfold chk1 at hk
  simp only [Int.toNat_of_nonneg (show 0 ≤ base by omega), Int.toNat_of_nonneg h3, h] at hk
  have h7 := List.all_eq_true.1 (List.all_eq_true.1 hk t (List.mem_range.2 (by omega))) l (List.mem_range.2 hl)
  simp only [Bool.and_eq_true, decide_eq_true_eq, List.all_eq_true, List.mem_range] at h7
  exact ⟨h7.1.1, h7.1.2, fun x hx => h7.2 x hx⟩
theorem wtab_lt {base tracks : Int} {n : Nat} (h : manyN base tracks = some n) {t : Nat} (ht : (t : Int) < tracks) : ∀ l, l < radix base ^ (tracks.toNat - 1) → ∀ k ∈ wtab (radix base) tracks.toNat t l, k < n := by
  intro l hl k hk
  obtain ⟨x, hx, rfl⟩ := List.mem_map.1 hk
  exact ((put_in h ht hl).2.2 x (List.mem_range.1 hx)).2
theorem wtab_len (k T t l : Nat) : (wtab k T t l).length = k := by simp [wtab]
end Go.Proofs.Ytlffephcbfdknaa.Tbl

/- What some.closure answers. Plain. -/
set_option linter.unusedVariables false
set_option linter.unusedSimpArgs false
namespace Go.Proofs.Ytlffephcbfdknaa.Tbl
open Go.RowKit Go.Proofs.YtlffephcbfdknaaW.PrintWords Go.Proofs.YtlffephcbfdknaaW.PrintMore Go.Proofs.YtlffephcbfdknaaW.PrintLast Go.Proofs.Fil Go.Proofs.Ytlffephcbfdknaa.Chk Go.Proofs.Ytlffephcbfdknaa.Wk Go.Proofs.Ytlffephcbfdknaa.PSomeTakes
theorem index0_spec (xs : List Int) (x : Int) (hl : xs.length < 9223372036854775807) (m : Nat) : ∀ j : Nat, xs.length - j = m → j ≤ xs.length → ∃ k r, slices_Index_int_int.l0 k xs x xs.length j = some r ∧ (0 ≤ r ↔ x ∈ xs.drop j) := by
  induction m with
  | zero =>
    intro j hj hjl
    refine ⟨1, -1, ?_, ?_⟩
    · simp only [slices_Index_int_int.l0]; rw [if_neg (by omega)]
    · rw [List.drop_eq_nil_of_le (by omega)]; simp
  | succ m ih =>
    intro j hj hjl
    have hlt : j < xs.length := by omega
    obtain ⟨k, r, hk, hr⟩ := ih (j + 1) (by omega) (by omega)
    have hd : xs.drop j = xs.getD j 0 :: xs.drop (j + 1) := by
      rw [List.drop_eq_getElem_cons hlt]
      congr 1
      exact (getD_at hlt 0).symm
    rw [hd]
    by_cases e : x = xs.getD j 0
    · refine ⟨1, j, ?_, ?_⟩
      · simp only [slices_Index_int_int.l0]
        rw [if_pos (by omega), if_pos (by omega), if_pos (by omega), rd_nat, if_pos e]
      · rw [← e]; simp
    · refine ⟨k + 1, r, ?_, ?_⟩
      · simp only [slices_Index_int_int.l0]
        rw [if_pos (by omega), if_pos (by omega), if_pos (by omega), rd_nat, if_neg e, wrap_nat (by omega), hk]
      · rw [hr, List.mem_cons]; exact ⟨fun h => .inr h, fun h => h.elim (fun h => (e h).elim) id⟩
theorem contains_spec (xs : List Int) (x : Int) (hl : xs.length < 9223372036854775807) : ∃ k, slices_Contains_int_int.f k xs x = some (decide (x ∈ xs)) := by
  obtain ⟨k, r, hk, hr⟩ := index0_spec xs x hl _ 0 rfl (Nat.zero_le _)
  refine ⟨k, ?_⟩
  unfold slices_Contains_int_int.f slices_Index_int_int.f
  rw [show ((0 : Nat) : Int) = 0 from rfl] at hk
  rw [hk]
  simp only [Option.bind_some]
  rw [List.drop_zero] at hr
  exact congrArg some (decide_eq_decide.2 hr)
theorem mem_I {o : List Nat} {t : Nat} : (t : Int) ∈ I o ↔ t ∈ o := by
  constructor
  · intro h
    obtain ⟨y, hy, e⟩ := List.mem_map.1 h
    have : y = t := by omega
    exact this ▸ hy
  · intro h; exact List.mem_map.2 ⟨t, h, rfl⟩
section
variable {n : Nat} {T : Tab} {ends : List Bool} (h : WF n T ends) {ze : List Nat} (hz : ∀ k ∈ ze, k < n) (b t : Int)
include h hz
theorem clo1_spec (i : Nat) (s : Nat) (hs : s < T.length) (hzl : ze.length < 9223372036854775807) (hi : i < 1000000) (R : Option (List Int)) (m : Nat) : ∀ (j : Nat) (o : List Nat), ze.length - j = m → j ≤ ze.length → o[i]? = some s → (∀ x ∈ o, x < T.length) → o.length + m < 1000000 →
    (∃ k, some_closure.l0 k (I ze) (I (addAll o ((ze.drop j).map (nx T s)))) ((i + 1 : Nat) : Int) b t (II T) ends = R) → R.isSome = true → ∃ k, some_closure.l1 k (I ze) (I o) (i : Int) (I ze) ze.length j b t (II T) ends = R := by
  induction m with
  | zero =>
    intro j o hj hjl ho hoT hol hc hR
    obtain ⟨k, hk⟩ := hc
    rw [List.drop_eq_nil_of_le (by omega)] at hk
    refine ⟨k + 1, ?_⟩
    simp only [some_closure.l1]
    rw [if_neg (by omega), wrap_nat (by omega)]
    exact hk
  | succ m ih =>
    intro j o hj hjl ho hoT hol hc hR
    have hlt : j < ze.length := by omega
    have hil := (List.getElem?_eq_some_iff.1 ho).1
    have hog : o.getD i 0 = s := by rw [List.getD_eq_getElem?_getD, ho]; rfl
    have hzk : ze.getD j 0 < n := hz _ (by rw [getD_at hlt]; exact List.getElem_mem hlt)
    obtain ⟨z, hzz⟩ : ∃ z, z = ze.getD j 0 := ⟨_, rfl⟩
    rw [← hzz] at hzk
    have hnx := h.nx_lt hs hzk
    have hd : (ze.drop j).map (nx T s) = nx T s z :: (ze.drop (j + 1)).map (nx T s) := by
      rw [List.drop_eq_getElem_cons hlt, List.map_cons, hzz, getD_at hlt]
    rw [hd, addAll_cons] at hc
    obtain ⟨kc, hkc⟩ := contains_spec (I o) (nx T s z : Int) (by rw [I_len]; omega)
    have step : ∀ (o' : List Nat) k, some_closure.l1 k (I ze) (I o') (i : Int) (I ze) ze.length ((j + 1 : Nat) : Int) b t (II T) ends = R → o' = (if nx T s z ∈ o then o else o ++ [nx T s z]) → ∃ k, some_closure.l1 k (I ze) (I o) (i : Int) (I ze) ze.length j b t (II T) ends = R := by
      intro o' k hk ho'
      obtain ⟨r, hr⟩ := Option.isSome_iff_exists.1 hR
      refine ⟨max k kc + 1, ?_⟩
      have hk' := leO_up (fun k => (some_closure.mono_l k).2 _ _ _ _ _ _ _ _ _ _) (Nat.le_max_left k kc) (hk.trans hr)
      have hkc' := leO_up (fun k => slices_Contains_int_int.mono _ _ k) (Nat.le_max_right k kc) hkc
      simp only [some_closure.l1]
      have e1 : rd (I o) (i : Int) = (s : Int) := by rw [rd_nat, I_get, hog]
      have e2 : rd (I ze) (j : Int) = (z : Int) := by rw [rd_nat, I_get, hzz]
      have e3 : (rd_L1 (II T) (s : Int)).length = n := by
        unfold rd_L1
        rw [Int.toNat_natCast, II_get, I_len]
        exact h.row_len hs
      have e4 : rd (rd_L1 (II T) (s : Int)) (z : Int) = (nx T s z : Int) := by
        unfold rd_L1 nx
        rw [Int.toNat_natCast, II_get, rd_nat, I_get]
      rw [if_pos (by omega), if_pos (by omega), if_pos (by rw [I_len]; omega), if_pos (by omega), if_pos (by rw [I_len]; omega), e1, e2, if_pos (by omega), if_pos (by rw [II_len]; omega), if_pos (by omega), e3, if_pos (by omega), e4, hkc']
      simp only [Option.bind_some]
      by_cases hm : nx T s z ∈ o
      · rw [if_pos (decide_eq_true (mem_I.2 hm)), wrap_nat (by omega), hr]
        rw [if_pos hm] at ho'
        rw [← ho']
        exact hk'
      · rw [if_neg (by simp [mem_I, hm]), if_pos (by rw [I_len]; omega), wrap_nat (by omega), ← I_snoc, hr]
        rw [if_neg hm] at ho'
        rw [← ho']
        exact hk'
    obtain ⟨o', ho'⟩ : ∃ o', o' = (if nx T s z ∈ o then o else o ++ [nx T s z]) := ⟨_, rfl⟩
    have hpre : o <+: o' := by rw [ho']; split; exact List.prefix_refl _; exact List.prefix_append _ _
    have hol' : o'.length ≤ o.length + 1 := by rw [ho']; split; omega; simp
    rw [← ho'] at hc
    obtain ⟨k, hk⟩ := ih (j + 1) o' (by omega) (by omega) (prefix_getElem? hpre ho) (fun x hx => by
      rw [ho'] at hx
      split at hx
      · exact hoT x hx
      · rcases List.mem_append.1 hx with h1 | h1
        · exact hoT x h1
        · rw [List.mem_singleton.1 h1]; exact hnx) (by omega) hc hR
    exact step o' k hk ho'
theorem clo0_spec (hN : T.length ≤ 1000) (hzl : ze.length ≤ 1000) (m : Nat) : ∀ i : Nat, T.length - i = m → i ≤ T.length → ∃ k, some_closure.l0 k (I ze) (I (bfsI (fun s => ze.map (nx T s)) 0 i)) (i : Int) b t (II T) ends = some (I (clo T ze)) := by
  have hlt : ∀ i, ∀ x ∈ bfsI (fun s => ze.map (nx T s)) 0 i, x < T.length := fun i => bfsI_inv _ 0 (P := fun s => s < T.length) h.pos (fun x hx t ht => by
    obtain ⟨k, hk, rfl⟩ := List.mem_map.1 ht
    exact h.nx_lt hx (hz k hk)) i
  have hle : ∀ i, (bfsI (fun s => ze.map (nx T s)) 0 i).length ≤ T.length := fun i => by
    have := nodup_length_le (bfsI_nodup (fun s => ze.map (nx T s)) 0 i) (U := List.range T.length) (fun x hx => List.mem_range.2 (hlt i x hx))
    rwa [List.length_range] at this
  induction m with
  | zero =>
    intro i hi hil
    obtain rfl : i = T.length := by omega
    refine ⟨1, ?_⟩
    simp only [some_closure.l0]
    rw [if_neg (by rw [I_len]; have := hle T.length; omega)]
    rfl
  | succ m ih =>
    intro i hi hil
    obtain ⟨k, hk⟩ := ih (i + 1) (by omega) (by omega)
    cases hx : (bfsI (fun s => ze.map (nx T s)) 0 i)[i]? with
    | none =>
      refine ⟨1, ?_⟩
      have hl := List.getElem?_eq_none_iff.1 hx
      simp only [some_closure.l0]
      rw [if_neg (by rw [I_len]; omega)]
      unfold clo
      rw [bfsI_stop (fun s => ze.map (nx T s)) 0 hl hil]
    | some s =>
      have hil' := (List.getElem?_eq_some_iff.1 hx).1
      rw [bfsI_succ_some _ _ hx] at hk
      obtain ⟨k1, hk1⟩ := clo1_spec h hz b t i s (hlt i s (List.mem_of_getElem? hx)) (by omega) (by omega) (some (I (clo T ze))) _ 0 (bfsI (fun s => ze.map (nx T s)) 0 i) rfl (Nat.zero_le _) hx (hlt i) (by have := hle i; omega) ⟨k, by rw [List.drop_zero]; exact hk⟩ rfl
      refine ⟨k1 + 1, ?_⟩
      simp only [some_closure.l0]
      rw [if_pos (by rw [I_len]; omega), I_len]
      exact hk1
theorem clo_spec (hN : T.length ≤ 1000) (hzl : ze.length ≤ 1000) : ∃ k, some_closure.f k b t (II T) ends (I ze) = some (I (clo T ze)) := clo0_spec h hz b t hN hzl _ 0 rfl (Nat.zero_le _)
end
end Go.Proofs.Ytlffephcbfdknaa.Tbl
