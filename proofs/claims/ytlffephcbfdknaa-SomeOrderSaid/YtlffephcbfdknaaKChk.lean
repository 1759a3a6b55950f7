/- What the printed functions on automata answer: letter.Many, auto.Check, auto.Takes, Autos. Plain. -/
import Derived.Test.YtlffephcbfdknaaPSomeTakesx2
import Derived.Test.YtlffephcbfdknaaK1
set_option linter.unusedVariables false
set_option linter.unusedSimpArgs false
namespace Go.Proofs.Ytlffephcbfdknaa.Chk
open Go.RowKit Go.Proofs.YtlffephcbfdknaaW.PrintWords Go.Proofs.YtlffephcbfdknaaW.PrintMore Go.Proofs.YtlffephcbfdknaaW.PrintLast Go.Proofs.Fil Go.Proofs.Ytlffephcbfdknaa.PSomeTakes

/-- digits of a base -/
def radix (base : Int) : Nat := if base = 1 then 2 else if 2 ≤ base ∧ base ≤ 6 then base.toNat else 0
/-- how many letters -/
def manyN (base tracks : Int) : Option Nat :=
  if radix base = 0 ∨ tracks < 0 ∨ 5 < tracks then none else if radix base ^ tracks.toNat ≤ 36 then some (radix base ^ tracks.toNat) else none
theorem manyN_le {base tracks : Int} {n : Nat} (h : manyN base tracks = some n) : 1 ≤ n ∧ n ≤ 36 := by
  unfold manyN at h
  split at h
  · cases h
  · split at h
    · rename_i h1 h2
      injection h with h
      subst h
      exact ⟨Nat.pos_of_ne_zero (fun h3 => by
        rw [Nat.pow_eq_zero] at h3
        exact h1 (.inl h3.1)), h2⟩
    · cases h
theorem many_table : ∀ b : Fin 7, ∀ t : Fin 6, 1 ≤ b.val → letter_Many.f 10 (b.val : Int) (t.val : Int) = (match manyN (b.val : Int) (t.val : Int) with | some n => some ((n : Int), none) | none => some (0, some 3)) := by decide +kernel
theorem many_spec (base tracks : Int) : ∃ r, letter_Many.f 10 base tracks = some r ∧ ((∃ n : Nat, manyN base tracks = some n ∧ r = ((n : Int), none)) ∨ (manyN base tracks = none ∧ ∃ e, r = (0, some e) ∧ (e = 1 ∨ e = 3))) := by
  by_cases hb : 1 ≤ base ∧ base ≤ 6
  · by_cases ht : 0 ≤ tracks ∧ tracks ≤ 5
    · obtain ⟨h1, h2⟩ := hb
      obtain ⟨h3, h4⟩ := ht
      have hk := many_table ⟨base.toNat, by omega⟩ ⟨tracks.toNat, by omega⟩ (by show 1 ≤ base.toNat; omega)
      simp only [Int.toNat_of_nonneg (show 0 ≤ base by omega), Int.toNat_of_nonneg h3] at hk
      cases hm : manyN base tracks with
      | some n => rw [hm] at hk; exact ⟨_, hk, .inl ⟨n, rfl, rfl⟩⟩
      | none => rw [hm] at hk; exact ⟨_, hk, .inr ⟨rfl, 3, rfl, .inr rfl⟩⟩
    · have hm : manyN base tracks = none := by
        unfold manyN
        rw [if_pos (by omega)]
      have hd : ∃ t, digit_Radix.f base = some t ∧ t ≠ 0 := by
        unfold digit_Radix.f
        by_cases h1 : base = 1
        · exact ⟨2, by rw [if_pos h1], by decide⟩
        · exact ⟨base, by rw [if_neg h1, if_pos (by omega), if_pos (by omega)], by omega⟩
      obtain ⟨t, hd, h0⟩ := hd
      refine ⟨(0, some 1), ?_, .inr ⟨hm, 1, rfl, .inl rfl⟩⟩
      unfold letter_Many.f
      rw [hd]
      simp only [Option.bind_some]
      rw [if_neg h0]
      by_cases h1 : tracks < 0
      · rw [if_pos h1]; rfl
      · rw [if_neg h1, decide_eq_true (by omega)]; rfl
  · have hm : manyN base tracks = none := by
      unfold manyN
      rw [if_pos]
      left
      unfold radix
      rw [if_neg (by omega), if_neg (by omega)]
    have hd : digit_Radix.f base = some 0 := by
      unfold digit_Radix.f
      rw [if_neg (by omega)]
      by_cases h1 : base ≥ 2
      · rw [if_pos h1, if_neg (by omega)]
      · rw [if_neg h1]
    refine ⟨(0, some 1), ?_, .inr ⟨hm, 1, rfl, .inl rfl⟩⟩
    unfold letter_Many.f
    rw [hd]
    rfl

theorem leO_up {α : Type} {g : Nat → Option α} (hm : ∀ k, LeO (g k) (g (k + 1))) {k k' : Nat} (h : k ≤ k') {r : α} (hr : g k = some r) : g k' = some r := by
  induction k' with
  | zero => obtain rfl : k = 0 := by omega
            exact hr
  | succ k' ih =>
    by_cases e : k = k' + 1
    · subst e; exact hr
    · exact hm k' r (ih (by omega))

/-- one row is right -/
def RowOk (n N : Nat) (row : List Int) : Prop := row.length = n ∧ ∀ x ∈ row, 0 ≤ x ∧ x < (N : Int)
theorem rd_nat (row : List Int) (j : Nat) : rd row (j : Int) = row.getD j 0 := by simp [rd]
theorem wrap_nat {j : Nat} (h : j < 9223372036854775807) : wrap64 ((j : Int) + 1) = ((j + 1 : Nat) : Int) := by
  unfold wrap64; omega
theorem l1_spec (n N : Nat) (next : List (List Int)) (b t : Int) (ends : List Bool) (hN : next.length = N) (hbig : N < 9223372036854775807) (i : Nat) (hi : i < N) (row : List Int) (hrl : row.length < 9223372036854775807) (r0 : Option Int) (h0 : ∃ k, auto_Check.l0 k n next N ((i + 1 : Nat) : Int) b t next ends = some r0) (m : Nat) : ∀ (j : Nat), row.length - j = m → j ≤ row.length →
    ∃ k, auto_Check.l1 k n next N i row row.length j b t next ends = some (if ∀ x ∈ row.drop j, 0 ≤ x ∧ x < (N : Int) then r0 else some 1) := by
  induction m with
  | zero =>
    intro j hj hjl
    obtain ⟨k, hk⟩ := h0
    refine ⟨k + 1, ?_⟩
    have : row.drop j = [] := List.drop_eq_nil_of_le (by omega)
    rw [this, if_pos (by simp)]
    simp only [auto_Check.l1]
    rw [if_neg (by omega), wrap_nat (by omega)]
    exact hk
  | succ m ih =>
    intro j hj hjl
    have hlt : j < row.length := by omega
    obtain ⟨k, hk⟩ := ih (j + 1) (by omega) (by omega)
    refine ⟨k + 1, ?_⟩
    simp only [auto_Check.l1]
    rw [if_pos (by omega), if_pos (by omega), if_pos (by omega), rd_nat, wrap_nat (by omega), hN]
    have hd : row.drop j = row.getD j 0 :: row.drop (j + 1) := by
      rw [List.drop_eq_getElem_cons hlt]
      congr 1
      exact (getD_at hlt 0).symm
    rw [hd]
    by_cases h1 : row.getD j 0 < 0
    · rw [if_pos h1, if_neg (fun h => by have := (h (row.getD j 0) (List.mem_cons_self ..)).1; omega)]
    · rw [if_neg h1]
      by_cases h2 : row.getD j 0 ≥ (N : Int)
      · rw [if_pos h2, if_neg (fun h => by have := (h (row.getD j 0) (List.mem_cons_self ..)).2; omega)]
      · rw [if_neg h2, hk]
        congr 1
        by_cases h3 : ∀ x ∈ row.drop (j + 1), 0 ≤ x ∧ x < (N : Int)
        · rw [if_pos h3, if_pos]
          intro x hx
          rcases List.mem_cons.1 hx with rfl | hx
          · exact ⟨by omega, by omega⟩
          · exact h3 x hx
        · rw [if_neg h3, if_neg (fun h => h3 (fun x hx => h x (List.mem_cons_of_mem _ hx)))]
theorem l0_spec (n N : Nat) (next : List (List Int)) (b t : Int) (ends : List Bool) (hN : next.length = N) (hbig : N < 9223372036854775807) (hn : n < 9223372036854775807) (m : Nat) : ∀ (i : Nat), N - i = m → i ≤ N →
    ∃ k r, auto_Check.l0 k n next N i b t next ends = some r ∧ (r = none ↔ ∀ row ∈ next.drop i, RowOk n N row) ∧ (∀ e, r = some e → e = 1 ∨ e = 2) := by
  induction m with
  | zero =>
    intro i hi hil
    refine ⟨1, none, ?_, ?_, fun e h => by cases h⟩
    · simp only [auto_Check.l0]; rw [if_neg (by omega)]
    · rw [List.drop_eq_nil_of_le (by omega)]; simp
  | succ m ih =>
    intro i hi hil
    obtain ⟨k, r, hk, hr, he⟩ := ih (i + 1) (by omega) (by omega)
    have hlt : i < next.length := by omega
    have hd : next.drop i = next.getD i [] :: next.drop (i + 1) := by
      rw [List.drop_eq_getElem_cons hlt]
      congr 1
      exact (getD_at hlt []).symm
    have hrd : rd_L1 next (i : Int) = next.getD i [] := by simp [rd_L1]
    rw [hd]
    by_cases h1 : (next.getD i []).length = n
    · obtain ⟨k2, hk2⟩ := l1_spec n N next b t ends hN hbig i (by omega) (next.getD i []) (by omega) r ⟨k, hk⟩ _ 0 rfl (Nat.zero_le _)
      refine ⟨k2 + 1, (if ∀ x ∈ (next.getD i []).drop 0, 0 ≤ x ∧ x < (N : Int) then r else some 1), ?_, ?_, ?_⟩
      · simp only [auto_Check.l0]
        rw [if_pos (by omega), if_pos (by omega), if_pos (by omega), hrd, if_pos (by omega)]
        exact hk2
      · rw [List.drop_zero]
        by_cases h2 : ∀ x ∈ next.getD i [], 0 ≤ x ∧ x < (N : Int)
        · rw [if_pos h2, hr]
          constructor
          · intro h row hm
            rcases List.mem_cons.1 hm with rfl | hm
            · exact ⟨h1, h2⟩
            · exact h row hm
          · exact fun h row hm => h row (List.mem_cons_of_mem _ hm)
        · rw [if_neg h2]
          constructor
          · intro h; cases h
          · exact fun h => absurd (h (next.getD i []) (List.mem_cons_self ..)).2 h2
      · intro e h
        split at h
        · exact he e h
        · injection h with h; exact .inl h.symm
    · refine ⟨1, some 2, ?_, ?_, fun e h => by injection h with h; exact .inr h.symm⟩
      · simp only [auto_Check.l0]
        rw [if_pos (by omega), if_pos (by omega), if_pos (by omega), hrd, if_neg (by omega)]
      · constructor
        · intro h; cases h
        · exact fun h => absurd (h (next.getD i []) (List.mem_cons_self ..)).1 h1

/-- AN AUTOMATON AS IT MAY BE: n letters, the table T. -/
structure Ok (base tracks : Int) (next : List (List Int)) (ends : List Bool) (n : Nat) (T : Tab) : Prop where
  many : manyN base tracks = some n
  eq : next = II T
  wf : WF n T ends
  small : T.length ≤ 80
theorem Ok.unique {base tracks : Int} {next : List (List Int)} {ends : List Bool} {n n' : Nat} {T T' : Tab} (h : Ok base tracks next ends n T) (h' : Ok base tracks next ends n' T') : n = n' ∧ T = T' :=
  ⟨by have := h.many.symm.trans h'.many; injection this, II_inj (h.eq.symm.trans h'.eq)⟩
theorem check_spec (base tracks : Int) (next : List (List Int)) (ends : List Bool) : ∃ k r, auto_Check.f k base tracks next ends = some r ∧ (r = none ↔ ∃ n T, Ok base tracks next ends n T) ∧ (∀ e, r = some e → e = 1 ∨ e = 2 ∨ e = 3 ∨ e = 4) := by
  obtain ⟨rm, hm, hmc⟩ := many_spec base tracks
  rcases hmc with ⟨n, hn, rfl⟩ | ⟨hn, e, rfl, he⟩
  · have hn36 := (manyN_le hn).2
    by_cases h1 : next.length = 0
    · refine ⟨10, some 4, ?_, ⟨fun h => (by cases h), fun ⟨n, T, h⟩ => ?_⟩, fun e h => by injection h with h; omega⟩
      · unfold auto_Check.f; rw [hm]; simp only [Option.bind_some, Option.isNone_none, if_true]; rw [if_pos (by omega)]
      · have h2 := h.wf.pos; rw [h.eq, II_len] at h1; omega
    by_cases h2 : 80 < next.length
    · refine ⟨10, some 3, ?_, ⟨fun h => (by cases h), fun ⟨n, T, h⟩ => ?_⟩, fun e h => by injection h with h; omega⟩
      · unfold auto_Check.f; rw [hm]; simp only [Option.bind_some, Option.isNone_none, if_true]; rw [if_neg (by omega), if_pos (by omega)]
      · have h3 := h.small; rw [h.eq, II_len] at h2; omega
    by_cases h3 : ends.length = next.length
    · obtain ⟨k, r, hk, hr, he⟩ := l0_spec n next.length next base tracks ends rfl (by omega) (by omega) _ 0 rfl (Nat.zero_le _)
      refine ⟨max k 10, r, ?_, ?_, fun e h => by have := he e h; omega⟩
      · unfold auto_Check.f
        rw [leO_up (fun k => letter_Many.mono base tracks k) (Nat.le_max_right k 10) hm]
        simp only [Option.bind_some, Option.isNone_none, if_true]
        rw [if_neg (by omega), if_neg (by omega), if_pos (by omega)]
        exact leO_up (fun k => (auto_Check.mono_l k).1 _ _ _ _ _ _ _ _) (Nat.le_max_left k 10) hk
      · rw [hr, List.drop_zero]
        constructor
        · intro h
          have heq : next = II (next.map (List.map Int.toNat)) := by
            unfold II
            rw [List.map_map]
            conv => lhs; rw [← List.map_id next]
            refine List.map_congr_left (fun row hrow => ?_)
            simp only [id, Function.comp_apply, I, List.map_map]
            conv => lhs; rw [← List.map_id row]
            refine List.map_congr_left (fun x hx => ?_)
            have := ((h row hrow).2 x hx).1
            simp only [id, Function.comp_apply]
            omega
          refine ⟨n, next.map (List.map Int.toNat), hn, heq, ⟨by simp; omega, by simp [h3], ?_, ?_⟩, by simp; omega⟩
          · intro r hr
            obtain ⟨row, hrow, rfl⟩ := List.mem_map.1 hr
            rw [List.length_map]
            exact (h row hrow).1
          · intro r hr t ht
            obtain ⟨row, hrow, rfl⟩ := List.mem_map.1 hr
            obtain ⟨x, hx, rfl⟩ := List.mem_map.1 ht
            have := (h row hrow).2 x hx
            rw [List.length_map]
            omega
        · rintro ⟨n', T, h⟩ row hrow
          obtain rfl : n = n' := by have := hn.symm.trans h.many; injection this
          have hl : next.length = T.length := by rw [h.eq, II_len]
          rw [h.eq] at hrow
          obtain ⟨r, hr, rfl⟩ := List.mem_map.1 hrow
          refine ⟨by rw [I_len]; exact h.wf.row r hr, fun x hx => ?_⟩
          obtain ⟨t, ht, rfl⟩ := List.mem_map.1 hx
          have := h.wf.lt r hr t ht
          omega
    · refine ⟨10, some 2, ?_, ⟨fun h => (by cases h), fun ⟨n, T, h⟩ => ?_⟩, fun e h => by injection h with h; omega⟩
      · unfold auto_Check.f; rw [hm]; simp only [Option.bind_some, Option.isNone_none, if_true]; rw [if_neg (by omega), if_neg (by omega), if_neg (by omega)]
      · have h4 := h.wf.len; rw [h.eq, II_len] at h3; omega
  · refine ⟨10, some e, ?_, ⟨fun h => (by cases h), fun ⟨n, T, h⟩ => ?_⟩, fun e' h => by injection h with h; omega⟩
    · unfold auto_Check.f; rw [hm]; rfl
    · rw [h.many] at hn; cases hn

/-! ### auto.Takes -/
theorem nx_rd {T : Tab} {n : Nat} {ends : List Bool} (h : WF n T ends) {s l : Nat} (hs : s < T.length) : rd (rd_L1 (II T) (s : Int)) (l : Int) = ((nx T s l : Nat) : Int) := by
  unfold rd_L1 nx
  rw [Int.toNat_natCast, II_get, rd_nat, I_get]
theorem rdL1_len {T : Tab} {n : Nat} {ends : List Bool} (h : WF n T ends) {s : Nat} (hs : s < T.length) : (rd_L1 (II T) (s : Int)).length = n := by
  unfold rd_L1
  rw [Int.toNat_natCast, II_get, I_len]
  exact h.row_len hs
theorem run1_spec {T : Tab} {n : Nat} {ends : List Bool} (h : WF n T ends) (b t : Int) (v : List Nat) (hv : ∀ l ∈ v, l < n) (hl : v.length < 9223372036854775807) (m : Nat) : ∀ (j s : Nat), v.length - j = m → j ≤ v.length → s < T.length →
    ∃ k, auto_Run.l1 k s (I v) v.length j b t (II T) ends = some ((((v.drop j).foldl (nx T) s : Nat) : Int), none) := by
  induction m with
  | zero =>
    intro j s hj hjl hs
    refine ⟨1, ?_⟩
    simp only [auto_Run.l1]
    rw [if_neg (by omega), List.drop_eq_nil_of_le (by omega)]
    rfl
  | succ m ih =>
    intro j s hj hjl hs
    have hlt : j < v.length := by omega
    have hlv : v.getD j 0 < n := hv _ (by rw [getD_at hlt]; exact List.getElem_mem hlt)
    obtain ⟨k, hk⟩ := ih (j + 1) (nx T s (v.getD j 0)) (by omega) (by omega) (h.nx_lt hs hlv)
    refine ⟨k + 1, ?_⟩
    simp only [auto_Run.l1]
    rw [if_pos (by omega), if_pos (by omega), if_pos (by rw [I_len]; omega), if_pos (by omega), if_pos (by rw [II_len]; omega)]
    rw [rd_nat, I_get, if_pos (by omega), rdL1_len h hs, if_pos (by omega), nx_rd h hs, wrap_nat (by omega), hk]
    rw [List.drop_eq_getElem_cons hlt, List.foldl_cons, getD_at hlt]
theorem run0_spec {T : Tab} {n : Nat} {ends : List Bool} (h : WF n T ends) (b t : Int) (w : List Int) (hl : w.length < 9223372036854775807) (rc : Int × Option Int) (m : Nat) : ∀ (j : Nat), w.length - j = m → j ≤ w.length →
    ((∀ x ∈ w.drop j, 0 ≤ x ∧ x < (n : Int)) → ∃ k', auto_Run.l1 k' 0 w w.length 0 b t (II T) ends = some rc) → ∃ k, auto_Run.l0 k w w w.length j b t (II T) ends = some (if ∀ x ∈ w.drop j, 0 ≤ x ∧ x < (n : Int) then rc else (0, some 1)) := by
  induction m with
  | zero =>
    intro j hj hjl hc
    have hd : w.drop j = [] := List.drop_eq_nil_of_le (by omega)
    rw [hd] at hc ⊢
    obtain ⟨k, hk⟩ := hc (by simp)
    refine ⟨k + 1, ?_⟩
    rw [if_pos (by simp)]
    simp only [auto_Run.l0]
    rw [if_neg (by omega)]
    exact hk
  | succ m ih =>
    intro j hj hjl hc
    have hlt : j < w.length := by omega
    have hd : w.drop j = w.getD j 0 :: w.drop (j + 1) := by
      rw [List.drop_eq_getElem_cons hlt]
      congr 1
      exact (getD_at hlt 0).symm
    have hp := h.pos
    rw [hd] at hc ⊢
    by_cases h1 : w.getD j 0 < 0
    · refine ⟨1, ?_⟩
      rw [if_neg (fun h => by have := (h (w.getD j 0) (List.mem_cons_self ..)).1; omega)]
      simp only [auto_Run.l0]
      rw [if_pos (by omega), if_pos (by omega), if_pos (by omega), rd_nat, if_pos h1]
    · by_cases h2 : w.getD j 0 ≥ (n : Int)
      · refine ⟨1, ?_⟩
        rw [if_neg (fun h => by have := (h (w.getD j 0) (List.mem_cons_self ..)).2; omega)]
        simp only [auto_Run.l0]
        rw [if_pos (by omega), if_pos (by omega), if_pos (by omega), rd_nat, if_neg h1, if_pos (by rw [II_len]; omega)]
        have h3 := rdL1_len h hp
        rw [Int.natCast_zero] at h3
        rw [h3, if_pos h2]
      · obtain ⟨k, hk⟩ := ih (j + 1) (by omega) (by omega) (fun hv => hc (fun x hx => by
          rcases List.mem_cons.1 hx with rfl | hx
          · exact ⟨by omega, by omega⟩
          · exact hv x hx))
        refine ⟨k + 1, ?_⟩
        simp only [auto_Run.l0]
        rw [if_pos (by omega), if_pos (by omega), if_pos (by omega), rd_nat, if_neg h1, if_pos (by rw [II_len]; omega)]
        have h3 := rdL1_len h hp
        rw [Int.natCast_zero] at h3
        rw [h3, if_neg h2, wrap_nat (by omega), hk]
        congr 1
        by_cases h4 : ∀ x ∈ w.drop (j + 1), 0 ≤ x ∧ x < (n : Int)
        · rw [if_pos h4, if_pos]
          intro x hx
          rcases List.mem_cons.1 hx with rfl | hx
          · exact ⟨by omega, by omega⟩
          · exact h4 x hx
        · rw [if_neg h4, if_neg (fun h => h4 (fun x hx => h x (List.mem_cons_of_mem _ hx)))]

theorem I_of (w : List Int) (h : ∀ x ∈ w, 0 ≤ x) : w = I (w.map Int.toNat) := by
  unfold I
  rw [List.map_map]
  conv => lhs; rw [← List.map_id w]
  exact List.map_congr_left (fun x hx => by have := h x hx; simp only [id, Function.comp_apply]; omega)
/-- a word that may be run -/
def WordOk (n : Nat) (w : List Int) : Prop := w.length ≤ 400 ∧ ∀ x ∈ w, 0 ≤ x ∧ x < (n : Int)
theorem takes_spec (base tracks : Int) (next : List (List Int)) (ends : List Bool) (w : List Int) (hw : w.length < 9223372036854775807) : ∃ k x r, auto_Takes.f k base tracks next ends w = some (x, r) ∧
    (∀ n T, Ok base tracks next ends n T → (WordOk n w → x = lof n (T, ends) 0 (w.map Int.toNat) ∧ r = none) ∧ (¬ WordOk n w → x = false ∧ r.isSome = true)) ∧ ((¬ ∃ n T, Ok base tracks next ends n T) → x = false ∧ r.isSome = true) := by
  obtain ⟨kc, rc, hc, hc1, hc2⟩ := check_spec base tracks next ends
  cases rc with
  | some e =>
    have hno : ¬ ∃ n T, Ok base tracks next ends n T := fun h => by have := hc1.2 h; cases this
    refine ⟨kc, false, some e, ?_, fun n T h => (hno ⟨n, T, h⟩).elim, fun _ => ⟨rfl, rfl⟩⟩
    unfold auto_Takes.f auto_Run.f
    rw [hc]
    rfl
  | none =>
    obtain ⟨n, T, h⟩ := hc1.1 rfl
    have h' := h
    obtain ⟨hm, rfl, hwf, hs⟩ := h
    have hn := manyN_le hm
    by_cases hlong : w.length ≤ 400
    · obtain ⟨k, hk⟩ := run0_spec hwf base tracks w hw ((((w.map Int.toNat).foldl (nx T) 0 : Nat) : Int), none) _ 0 rfl (Nat.zero_le _) (fun hv => by
        rw [List.drop_zero] at hv
        obtain ⟨k, hk⟩ := run1_spec hwf base tracks (w.map Int.toNat) (fun l hl => by
          obtain ⟨x, hx, rfl⟩ := List.mem_map.1 hl
          have := hv x hx
          omega) (by simpa using hw) _ 0 0 rfl (Nat.zero_le _) hwf.pos
        rw [← I_of w (fun x hx => (hv x hx).1), List.drop_zero, List.length_map] at hk
        exact ⟨k, hk⟩)
      rw [List.drop_zero] at hk
      have hc' := leO_up (fun k => auto_Check.mono base tracks (II T) ends k) (Nat.le_max_left kc k) hc
      have hk' := leO_up (fun k => (auto_Run.mono_l k).1 _ _ _ _ _ _ _ _) (Nat.le_max_right kc k) hk
      rw [show ((0 : Nat) : Int) = 0 from rfl] at hk'
      by_cases hv : ∀ x ∈ w, 0 ≤ x ∧ x < (n : Int)
      · rw [if_pos hv] at hk'
        have hlt : (w.map Int.toNat).foldl (nx T) 0 < T.length := by
          have key : ∀ (v : List Nat) (s : Nat), (∀ l ∈ v, l < n) → s < T.length → v.foldl (nx T) s < T.length := by
            intro v
            induction v with
            | nil => intro s _ hs; exact hs
            | cons l v ih => intro s hv hs; exact ih _ (fun l' hl' => hv l' (List.mem_cons_of_mem _ hl')) (hwf.nx_lt hs (hv l (by simp)))
          exact key _ _ (fun l hl => by
            obtain ⟨x, hx, rfl⟩ := List.mem_map.1 hl
            have := hv x hx
            omega) hwf.pos
        refine ⟨max kc k, lof n (T, ends) 0 (w.map Int.toNat), none, ?_, fun n' T' h2 => ?_, fun h2 => (h2 ⟨n, T, h'⟩).elim⟩
        · unfold auto_Takes.f auto_Run.f
          rw [hc']
          simp only [Option.bind_some, Option.isNone_none, if_true]
          rw [if_neg (by omega), hk']
          simp only [Option.bind_some, Option.isNone_none, if_true]
          rw [if_pos (by omega), if_pos (by rw [hwf.len]; omega)]
          refine congrArg some (Prod.ext ?_ rfl)
          show _ = lang n (nx T) (en ends) 0 (w.map Int.toNat)
          rw [lang_run]
          have hall : (w.map Int.toNat).all (fun l => decide (l < n)) = true := by
            rw [List.all_eq_true]
            intro l hl
            obtain ⟨x, hx, rfl⟩ := List.mem_map.1 hl
            have := hv x hx
            exact decide_eq_true (by omega)
          rw [hall, Bool.true_and]
          unfold rdOf en
          rw [Int.toNat_natCast]
        · obtain ⟨rfl, rfl⟩ := Ok.unique h' h2
          exact ⟨fun _ => ⟨rfl, rfl⟩, fun h3 => (h3 ⟨hlong, hv⟩).elim⟩
      · rw [if_neg hv] at hk'
        refine ⟨max kc k, false, some 1, ?_, fun n' T' h2 => ?_, fun h2 => (h2 ⟨n, T, h'⟩).elim⟩
        · unfold auto_Takes.f auto_Run.f
          rw [hc']
          simp only [Option.bind_some, Option.isNone_none, if_true]
          rw [if_neg (by omega), hk']
          rfl
        · obtain ⟨rfl, rfl⟩ := Ok.unique h' h2
          exact ⟨fun h3 => (hv h3.2).elim, fun _ => ⟨rfl, rfl⟩⟩
    · refine ⟨kc, false, some 3, ?_, fun n' T' h2 => ?_, fun h2 => (h2 ⟨n, T, h'⟩).elim⟩
      · unfold auto_Takes.f auto_Run.f
        rw [hc]
        simp only [Option.bind_some, Option.isNone_none, if_true]
        rw [if_pos (by omega)]
        rfl
      · obtain ⟨rfl, rfl⟩ := Ok.unique h' h2
        exact ⟨fun h3 => (hlong h3.1).elim, fun _ => ⟨rfl, rfl⟩⟩

end Go.Proofs.Ytlffephcbfdknaa.Chk
