/- Several texts in one: Lists in the order in which things are met, search breadth first, languages, the least automaton: plain lists and numbers, no program. -/
/- Lists in the order in which things are met, search breadth first, languages, the least automaton: plain lists and numbers, no program. -/
namespace Go.Proofs.Fil

section
variable {α : Type} [DecidableEq α]
/-- what is new of xs is put behind o, in its order -/
def addAll (o : List α) (xs : List α) : List α := xs.foldl (fun o t => if t ∈ o then o else o ++ [t]) o
/-- each element once, where it is met first -/
def dd (xs : List α) : List α := addAll [] xs
/-- breadth first: what has been met when i have been looked at -/
def bfsI (f : α → List α) (a : α) : Nat → List α
  | 0 => [a]
  | i + 1 => match (bfsI f a i)[i]? with
    | some x => addAll (bfsI f a i) (f x)
    | none => bfsI f a i

theorem addAll_nil (o : List α) : addAll o [] = o := rfl
theorem addAll_cons (o : List α) (t : α) (xs : List α) : addAll o (t :: xs) = addAll (if t ∈ o then o else o ++ [t]) xs := rfl
theorem addAll_append (o xs ys : List α) : addAll o (xs ++ ys) = addAll (addAll o xs) ys := by simp [addAll, List.foldl_append]
theorem addAll_snoc (o xs : List α) (t : α) : addAll o (xs ++ [t]) = if t ∈ addAll o xs then addAll o xs else addAll o xs ++ [t] := by
  rw [addAll_append]; rfl
theorem dd_append (xs ys : List α) : dd (xs ++ ys) = addAll (dd xs) ys := addAll_append _ _ _
theorem mem_addAll {xs : List α} : ∀ {o : List α} {t : α}, t ∈ addAll o xs ↔ t ∈ o ∨ t ∈ xs := by
  induction xs with
  | nil => intro o t; simp [addAll_nil]
  | cons x xs ih =>
    intro o t
    rw [addAll_cons, ih]
    split
    · rename_i h
      constructor
      · rintro (h1 | h1)
        · exact .inl h1
        · exact .inr (List.mem_cons_of_mem _ h1)
      · rintro (h1 | h1)
        · exact .inl h1
        · rcases List.mem_cons.1 h1 with rfl | h1
          · exact .inl h
          · exact .inr h1
    · simp only [List.mem_append, List.mem_cons, List.not_mem_nil, or_false, or_assoc]
theorem mem_dd {xs : List α} {t : α} : t ∈ dd xs ↔ t ∈ xs := by simp [dd, mem_addAll]
theorem addAll_prefix {xs : List α} : ∀ {o : List α}, o <+: addAll o xs := by
  induction xs with
  | nil => intro o; exact List.prefix_refl _
  | cons x xs ih =>
    intro o
    rw [addAll_cons]
    split
    · exact ih
    · exact (List.prefix_append o [x]).trans ih
theorem addAll_nodup {xs : List α} : ∀ {o : List α}, o.Nodup → (addAll o xs).Nodup := by
  induction xs with
  | nil => intro o h; exact h
  | cons x xs ih =>
    intro o h
    rw [addAll_cons]
    split
    · exact ih h
    · rename_i hx
      refine ih ?_
      rw [List.nodup_append]
      refine ⟨h, by simp, ?_⟩
      intro a ha b hb
      rw [List.mem_singleton] at hb
      subst hb
      rintro rfl
      exact hx ha
theorem dd_nodup (xs : List α) : (dd xs).Nodup := addAll_nodup (by simp)
theorem addAll_of_subset {xs : List α} : ∀ {o : List α}, (∀ t ∈ xs, t ∈ o) → addAll o xs = o := by
  induction xs with
  | nil => intro o _; rfl
  | cons x xs ih =>
    intro o h
    rw [addAll_cons, if_pos (h x (by simp))]
    exact ih (fun t ht => h t (List.mem_cons_of_mem _ ht))
theorem addAll_length_le (o xs : List α) : o.length ≤ (addAll o xs).length := addAll_prefix.length_le
theorem addAll_length_le' (xs : List α) : ∀ o : List α, (addAll o xs).length ≤ o.length + xs.length := by
  induction xs with
  | nil => intro o; simp [addAll_nil]
  | cons x xs ih =>
    intro o
    rw [addAll_cons]
    split
    · have := ih o; simp; omega
    · have := ih (o ++ [x]); simp at this ⊢; omega
theorem dd_length_le (xs : List α) : (dd xs).length ≤ xs.length := by have := addAll_length_le' xs []; simpa [dd] using this

theorem dd_map_addAll {β : Type} [DecidableEq β] (c : α → β) (xs : List α) : ∀ o : List α, dd ((addAll o xs).map c) = addAll (dd (o.map c)) (xs.map c) := by
  induction xs with
  | nil => intro o; rfl
  | cons x xs ih =>
    intro o
    rw [addAll_cons, ih, List.map_cons, addAll_cons]
    by_cases h : x ∈ o
    · rw [if_pos h, if_pos (mem_dd.2 (List.mem_map_of_mem h))]
    · rw [if_neg h, List.map_append, dd_append]; rfl

/-- no more than there are -/
theorem nodup_length_le {l U : List α} (hn : l.Nodup) (h : ∀ x ∈ l, x ∈ U) : l.length ≤ U.length := by
  induction l generalizing U with
  | nil => simp
  | cons a l ih =>
    rw [List.nodup_cons] at hn
    have ha := h a (by simp)
    have h2 : ∀ x ∈ l, x ∈ U.erase a := by
      intro x hx
      refine (List.mem_erase_of_ne ?_).2 (h x (List.mem_cons_of_mem _ hx))
      rintro rfl
      exact hn.1 hx
    have h3 := ih hn.2 h2
    rw [List.length_erase_of_mem ha] at h3
    have : 0 < U.length := List.length_pos_of_mem ha
    simp; omega

section bfs
variable (f : α → List α) (a : α)
theorem bfsI_succ_some {i : Nat} {x : α} (h : (bfsI f a i)[i]? = some x) : bfsI f a (i + 1) = addAll (bfsI f a i) (f x) := by
  simp only [bfsI, h]
theorem bfsI_succ_none {i : Nat} (h : (bfsI f a i)[i]? = none) : bfsI f a (i + 1) = bfsI f a i := by
  simp only [bfsI, h]
theorem bfsI_step_prefix (i : Nat) : bfsI f a i <+: bfsI f a (i + 1) := by
  cases h : (bfsI f a i)[i]? with
  | none => rw [bfsI_succ_none f a h]; exact List.prefix_refl _
  | some x => rw [bfsI_succ_some f a h]; exact addAll_prefix
theorem bfsI_prefix {i j : Nat} (h : i ≤ j) : bfsI f a i <+: bfsI f a j := by
  induction j with
  | zero => obtain rfl : i = 0 := by omega
            exact List.prefix_refl _
  | succ j ih =>
    rcases Nat.lt_or_ge i (j + 1) with h1 | h1
    · exact (ih (by omega)).trans (bfsI_step_prefix f a j)
    · obtain rfl : i = j + 1 := by omega
      exact List.prefix_refl _
theorem bfsI_nodup (i : Nat) : (bfsI f a i).Nodup := by
  induction i with
  | zero => simp [bfsI]
  | succ i ih =>
    cases h : (bfsI f a i)[i]? with
    | none => rw [bfsI_succ_none f a h]; exact ih
    | some x => rw [bfsI_succ_some f a h]; exact addAll_nodup ih
theorem bfsI_head (i : Nat) : (bfsI f a i)[0]? = some a := by
  have h := bfsI_prefix f a (Nat.zero_le i)
  obtain ⟨t, ht⟩ := h
  rw [← ht]; simp [bfsI]
theorem bfsI_pos (i : Nat) : 0 < (bfsI f a i).length := by
  have := bfsI_head f a i
  exact (List.getElem?_eq_some_iff.1 this).1
theorem bfsI_mem (i : Nat) : a ∈ bfsI f a i := List.mem_of_getElem? (bfsI_head f a i)
omit [DecidableEq α] in
theorem prefix_getElem? {l m : List α} (h : l <+: m) {i : Nat} {x : α} (hx : l[i]? = some x) : m[i]? = some x := by
  obtain ⟨t, rfl⟩ := h
  have hi := (List.getElem?_eq_some_iff.1 hx).1
  rw [List.getElem?_append_left hi]; exact hx
/-- what follows one that has been looked at has been met -/
theorem bfsI_closed {i j : Nat} (hj : j < i) {x : α} (hx : (bfsI f a i)[j]? = some x) : ∀ t ∈ f x, t ∈ bfsI f a i := by
  induction i with
  | zero => omega
  | succ i ih =>
    intro t ht
    rcases Nat.lt_or_ge j i with h1 | h1
    · cases h2 : (bfsI f a i)[j]? with
      | none =>
        -- the list was no longer than j then: nothing has been added since
        have h3 : (bfsI f a i)[i]? = none := by
          rw [List.getElem?_eq_none_iff] at h2 ⊢; omega
        rw [bfsI_succ_none f a h3, h2] at hx
        cases hx
      | some y =>
        have h4 := prefix_getElem? (bfsI_step_prefix f a i) h2
        rw [h4] at hx
        injection hx with hx
        subst hx
        exact (bfsI_step_prefix f a i).subset (ih h1 h2 t ht)
    · obtain rfl : j = i := by omega
      cases h2 : (bfsI f a j)[j]? with
      | none =>
        rw [bfsI_succ_none f a h2, h2] at hx; cases hx
      | some y =>
        have h4 := prefix_getElem? (bfsI_step_prefix f a j) h2
        rw [h4] at hx
        injection hx with hx
        subst hx
        rw [bfsI_succ_some f a h2]
        exact mem_addAll.2 (.inr ht)
theorem bfsI_stop {i : Nat} (h : (bfsI f a i).length ≤ i) : ∀ {j : Nat}, i ≤ j → bfsI f a j = bfsI f a i := by
  intro j hj
  induction j with
  | zero => obtain rfl : i = 0 := by omega
            rfl
  | succ j ih =>
    rcases Nat.lt_or_ge i (j + 1) with h1 | h1
    · have h2 := ih (by omega)
      rw [bfsI_succ_none f a (by rw [h2, List.getElem?_eq_none_iff]; omega), h2]
    · obtain rfl : i = j + 1 := by omega
      rfl
/-- whatever i is, as long as all have been looked at -/
theorem bfsI_final {i j : Nat} (hi : (bfsI f a i).length ≤ i) (hj : (bfsI f a j).length ≤ j) : bfsI f a i = bfsI f a j := by
  rcases Nat.le_total i j with h | h
  · exact (bfsI_stop f a hi h).symm
  · exact bfsI_stop f a hj h
theorem bfsI_final_closed {i : Nat} (hi : (bfsI f a i).length ≤ i) {x : α} (hx : x ∈ bfsI f a i) : ∀ t ∈ f x, t ∈ bfsI f a i := by
  obtain ⟨j, hj, rfl⟩ := List.mem_iff_getElem.1 hx
  exact bfsI_closed f a (by omega) (List.getElem?_eq_getElem hj)
/-- what holds of the first and goes on to what follows holds of all -/
theorem bfsI_inv {P : α → Prop} (h0 : P a) (hs : ∀ x, P x → ∀ t ∈ f x, P t) : ∀ i, ∀ x ∈ bfsI f a i, P x := by
  intro i
  induction i with
  | zero => intro x hx; simp [bfsI] at hx; subst hx; exact h0
  | succ i ih =>
    intro x hx
    cases h : (bfsI f a i)[i]? with
    | none => rw [bfsI_succ_none f a h] at hx; exact ih x hx
    | some y =>
      rw [bfsI_succ_some f a h] at hx
      rcases mem_addAll.1 hx with h1 | h1
      · exact ih x h1
      · exact hs y (ih y (List.mem_of_getElem? h)) x h1
/-- among finitely many the search ends -/
theorem bfsI_bound {U : List α} (h0 : a ∈ U) (hs : ∀ x ∈ U, ∀ t ∈ f x, t ∈ U) : (bfsI f a U.length).length ≤ U.length :=
  nodup_length_le (bfsI_nodup f a _) (bfsI_inv f a h0 (fun x hx t ht => hs x hx t ht) _)
theorem bfsI_le {U : List α} (h0 : a ∈ U) (hs : ∀ x ∈ U, ∀ t ∈ f x, t ∈ U) (i : Nat) : (bfsI f a i).length ≤ U.length :=
  nodup_length_le (bfsI_nodup f a _) (bfsI_inv f a h0 (fun x hx t ht => hs x hx t ht) _)
end bfs

/-- classes are met as their members are -/
theorem bfsI_quotient {β : Type} [DecidableEq β] (f : α → List α) (g : β → List β) (c : α → β) (a : α) {P : α → Prop} (h0 : P a)
    (hs : ∀ x, P x → ∀ t ∈ f x, P t) (hc : ∀ x, P x → (f x).map c = g (c x)) (i : Nat) :
    ∃ i', i' = (dd (((bfsI f a i).take i).map c)).length ∧ bfsI g (c a) i' = dd ((bfsI f a i).map c) := by
  induction i with
  | zero => exact ⟨0, by simp [dd, addAll], by simp [bfsI, dd, addAll]⟩
  | succ i ih =>
    obtain ⟨i', hi', hb⟩ := ih
    cases h : (bfsI f a i)[i]? with
    | none =>
      rw [bfsI_succ_none f a h]
      have hl : (bfsI f a i).length ≤ i := List.getElem?_eq_none_iff.1 h
      refine ⟨i', ?_, hb⟩
      rw [hi', List.take_of_length_le hl, List.take_of_length_le (by omega)]
    | some x =>
      have hi : i < (bfsI f a i).length := (List.getElem?_eq_some_iff.1 h).1
      have hx : (bfsI f a i)[i] = x := (List.getElem?_eq_some_iff.1 h).2
      have hPx : P x := bfsI_inv f a h0 hs i x (List.mem_of_getElem? h)
      rw [bfsI_succ_some f a h, dd_map_addAll, hc x hPx]
      have htake : (addAll (bfsI f a i) (f x)).take (i + 1) = (bfsI f a i).take i ++ [x] := by
        obtain ⟨t, ht⟩ := addAll_prefix (o := bfsI f a i) (xs := f x)
        rw [← ht, List.take_append_of_le_length (by omega), List.take_succ_eq_append_getElem hi, hx]
      rw [htake, List.map_append, dd_append]
      by_cases hin : c x ∈ dd (((bfsI f a i).take i).map c)
      · refine ⟨i', ?_, ?_⟩
        · rw [addAll_of_subset (by simpa using hin), hi']
        · rw [hb, addAll_of_subset]
          intro t ht
          rw [mem_dd, List.mem_map] at hin
          obtain ⟨y, hy, hyx⟩ := hin
          obtain ⟨j, hj, rfl⟩ := List.mem_iff_getElem.1 hy
          have hj' : j < i := by rw [List.length_take] at hj; omega
          rw [List.getElem_take] at hyx
          have hyj : (bfsI f a i)[j]? = some ((bfsI f a i)[j]'(by omega)) := List.getElem?_eq_getElem (by omega)
          have hPy := bfsI_inv f a h0 hs i _ (List.mem_of_getElem? hyj)
          rw [← hyx, ← hc _ hPy] at ht
          rw [mem_dd]
          obtain ⟨u, hu, rfl⟩ := List.mem_map.1 ht
          exact List.mem_map_of_mem (bfsI_closed f a hj' hyj u hu)
      · refine ⟨i' + 1, ?_, ?_⟩
        · show _ = (addAll (dd (((bfsI f a i).take i).map c)) [c x]).length
          rw [addAll_cons, if_neg hin, addAll_nil, List.length_append, hi']; rfl
        · have hg : (bfsI g (c a) i')[i']? = some (c x) := by
            have hsplit : bfsI f a i = (bfsI f a i).take i ++ x :: (bfsI f a i).drop (i + 1) := by
              rw [← hx, List.getElem_cons_drop, List.take_append_drop]
            have hpre : dd (((bfsI f a i).take i).map c) ++ [c x] <+: dd ((bfsI f a i).map c) := by
              have e : dd ((bfsI f a i).map c) = addAll (dd (((bfsI f a i).take i).map c) ++ [c x]) (((bfsI f a i).drop (i + 1)).map c) := by
                rw [hsplit, List.map_append, List.map_cons, dd_append, addAll_cons, ← hsplit, if_neg hin]
              rw [e]
              exact addAll_prefix
            rw [hb]
            refine prefix_getElem? hpre ?_
            rw [hi', List.getElem?_append_right (Nat.le_refl _)]; simp
          rw [bfsI_succ_some g (c a) hg, hb]
end

/-- from the end -/
theorem snocInd {α : Type} {P : List α → Prop} (nil : P []) (snoc : ∀ xs s, P xs → P (xs ++ [s])) (xs : List α) : P xs := by
  have key : ∀ n, ∀ xs : List α, xs.length = n → P xs := by
    intro n
    induction n with
    | zero => intro xs h; rw [List.eq_nil_of_length_eq_zero h]; exact nil
    | succ n ih =>
      intro xs h
      have hne : xs ≠ [] := by rintro rfl; simp at h
      rw [← List.dropLast_concat_getLast hne]
      exact snoc _ _ (ih _ (by rw [List.length_dropLast]; omega))
  exact key _ xs rfl

/-! ### where a key stands among those that were met -/
section
variable {α β γ : Type} [DecidableEq β] [DecidableEq γ]
/-- one for each key, the first one -/
def reps (f : α → β) (xs : List α) : List α := xs.foldl (fun o s => if f s ∈ o.map f then o else o ++ [s]) []
theorem reps_snoc (f : α → β) (xs : List α) (s : α) : reps f (xs ++ [s]) = if f s ∈ (reps f xs).map f then reps f xs else reps f xs ++ [s] := by
  simp [reps, List.foldl_append]
theorem reps_map (f : α → β) (xs : List α) : (reps f xs).map f = dd (xs.map f) := by
  induction xs using snocInd with
  | nil => rfl
  | snoc xs s ih =>
    rw [reps_snoc, List.map_append, dd_append]
    show _ = addAll (dd (xs.map f)) [f s]
    rw [addAll_cons, ← ih]
    split
    · rfl
    · simp [addAll_nil]
theorem reps_subset (f : α → β) (xs : List α) : ∀ s ∈ reps f xs, s ∈ xs := by
  induction xs using snocInd with
  | nil => intro s hs; cases hs
  | snoc xs s ih =>
    intro t ht
    rw [reps_snoc] at ht
    split at ht
    · exact List.mem_append_left _ (ih t ht)
    · rcases List.mem_append.1 ht with h | h
      · exact List.mem_append_left _ (ih t h)
      · exact List.mem_append_right _ h
theorem reps_congr (f : α → β) (g : α → γ) (xs : List α) (h : ∀ s ∈ xs, ∀ t ∈ xs, (f s = f t ↔ g s = g t)) : reps f xs = reps g xs := by
  induction xs using snocInd with
  | nil => rfl
  | snoc xs s ih =>
    have ih := ih (fun s hs t ht => h s (List.mem_append_left _ hs) t (List.mem_append_left _ ht))
    rw [reps_snoc, reps_snoc, ih]
    have e : (f s ∈ (reps g xs).map f) ↔ (g s ∈ (reps g xs).map g) := by
      simp only [List.mem_map]
      constructor
      · rintro ⟨t, ht, e⟩
        exact ⟨t, ht, (h t (List.mem_append_left _ (reps_subset g xs t ht)) s (by simp)).1 e⟩
      · rintro ⟨t, ht, e⟩
        exact ⟨t, ht, (h t (List.mem_append_left _ (reps_subset g xs t ht)) s (by simp)).2 e⟩
    by_cases h1 : g s ∈ (reps g xs).map g
    · rw [if_pos h1, if_pos (e.2 h1)]
    · rw [if_neg h1, if_neg (fun h2 => h1 (e.1 h2))]
omit [DecidableEq β] [DecidableEq γ] in
theorem idxOf_map_congr [BEq β] [LawfulBEq β] [BEq γ] [LawfulBEq γ] (f : α → β) (g : α → γ) (xs : List α) (s : α) (h : ∀ t ∈ xs, (f t = f s ↔ g t = g s)) : (xs.map f).idxOf (f s) = (xs.map g).idxOf (g s) := by
  induction xs with
  | nil => rfl
  | cons x xs ih =>
    have ih := ih (fun t ht => h t (List.mem_cons_of_mem _ ht))
    have hx := h x (by simp)
    rw [List.map_cons, List.map_cons, List.idxOf_cons, List.idxOf_cons, ih]
    by_cases e : f x = f s
    · rw [e, hx.1 e]; simp
    · have e' : ¬ g x = g s := fun h' => e (hx.2 h')
      rw [beq_eq_false_iff_ne.2 e, beq_eq_false_iff_ne.2 e']
/-- the number of a key among those that were met hangs on which keys are the same, alone -/
theorem idxOf_dd_congr [BEq β] [LawfulBEq β] [BEq γ] [LawfulBEq γ] (f : α → β) (g : α → γ) (xs : List α) (h : ∀ s ∈ xs, ∀ t ∈ xs, (f s = f t ↔ g s = g t)) {s : α} (hs : s ∈ xs) :
    (dd (xs.map f)).idxOf (f s) = (dd (xs.map g)).idxOf (g s) := by
  rw [← reps_map, ← reps_map, reps_congr f g xs h]
  exact idxOf_map_congr f g _ s (fun t ht => h t (reps_subset g xs t ht) s hs)
theorem length_dd_congr (f : α → β) (g : α → γ) (xs : List α) (h : ∀ s ∈ xs, ∀ t ∈ xs, (f s = f t ↔ g s = g t)) : (dd (xs.map f)).length = (dd (xs.map g)).length := by
  rw [← reps_map, ← reps_map, reps_congr f g xs h, List.length_map, List.length_map]
end

end Go.Proofs.Fil

/- Languages of automata; the canonical automaton of a language; what shrinks comes to it. Plain lists and numbers, no program. -/
set_option linter.unusedVariables false
set_option linter.unusedSimpArgs false
namespace Go.Proofs.Fil

/-- a language: which words -/
def Lang : Type := List Nat → Bool
noncomputable instance : DecidableEq Lang := fun _ _ => Classical.propDecidable _
/-- what may follow behind a letter -/
def Lang.tl (K : Lang) (l : Nat) : Lang := fun w => K (l :: w)

section
variable {α : Type}
/-- the words below n that lead from x to an end -/
def lang (n : Nat) (d : α → Nat → α) (e : α → Bool) : α → Lang
  | x, [] => e x
  | x, l :: w => decide (l < n) && lang n d e (d x l) w
def succs (n : Nat) (d : α → Nat → α) (x : α) : List α := (List.range n).map (d x)
def resid (n : Nat) (K : Lang) : List Lang := (List.range n).map K.tl
theorem resid_lang (n : Nat) (d : α → Nat → α) (e : α → Bool) (x : α) : (succs n d x).map (lang n d e) = resid n (lang n d e x) := by
  unfold succs resid
  rw [List.map_map]
  refine List.map_congr_left fun l hl => ?_
  funext w
  have : l < n := List.mem_range.1 hl
  simp [lang, Lang.tl, this]
theorem lang_cons (n : Nat) (d : α → Nat → α) (e : α → Bool) (x : α) {l : Nat} (hl : l < n) (w : List Nat) : lang n d e x (l :: w) = lang n d e (d x l) w := by simp [lang, hl]
/-- no letter that there isn't -/
def Proper (n : Nat) (K : Lang) : Prop := ∀ w, K w = true → ∀ l ∈ w, l < n
theorem lang_proper (n : Nat) (d : α → Nat → α) (e : α → Bool) : ∀ x, Proper n (lang n d e x) := by
  intro x w
  induction w generalizing x with
  | nil => intro _ l hl; cases hl
  | cons a w ih =>
    intro h l hl
    simp only [lang, Bool.and_eq_true, decide_eq_true_eq] at h
    rcases List.mem_cons.1 hl with rfl | hl
    · exact h.1
    · exact ih _ h.2 l hl
/-- by a run -/
theorem lang_run (n : Nat) (d : α → Nat → α) (e : α → Bool) : ∀ (w : List Nat) (x : α), lang n d e x w = (w.all (fun l => decide (l < n)) && e (w.foldl d x)) := by
  intro w
  induction w with
  | nil => intro x; simp [lang]
  | cons l w ih => intro x; simp [lang, ih, Bool.and_assoc]
end

theorem mem_resid {n : Nat} {K K' : Lang} (h : K' ∈ resid n K) : ∃ l, l < n ∧ K' = K.tl l := by
  obtain ⟨l, hl, rfl⟩ := List.mem_map.1 h
  exact ⟨l, List.mem_range.1 hl, rfl⟩
theorem resid_proper {n : Nat} {K : Lang} (h : Proper n K) : ∀ K' ∈ resid n K, Proper n K' := by
  intro K' hK
  obtain ⟨l, hl, rfl⟩ := mem_resid hK
  intro w hw l' hl'
  exact h (l :: w) hw l' (List.mem_cons_of_mem _ hl')

/-! ### automata as rows of nexts and ends -/
abbrev Tab := List (List Nat)
def nx (next : Tab) (s l : Nat) : Nat := (next.getD s []).getD l 0
def en (ends : List Bool) (s : Nat) : Bool := ends.getD s false
/-- the language from a state -/
def lof (n : Nat) (A : Tab × List Bool) (s : Nat) : Lang := lang n (nx A.1) (en A.2) s
structure WF (n : Nat) (next : Tab) (ends : List Bool) : Prop where
  pos : 0 < next.length
  len : ends.length = next.length
  row : ∀ r ∈ next, r.length = n
  lt : ∀ r ∈ next, ∀ t ∈ r, t < next.length
theorem WF.row_len {n : Nat} {next : Tab} {ends : List Bool} (h : WF n next ends) {s : Nat} (hs : s < next.length) : (next.getD s []).length = n := by
  rw [List.getD_eq_getElem?_getD, List.getElem?_eq_getElem hs]; exact h.row _ (List.getElem_mem hs)
theorem WF.row_mem {n : Nat} {next : Tab} {ends : List Bool} (h : WF n next ends) {s : Nat} (hs : s < next.length) : next.getD s [] ∈ next := by
  rw [List.getD_eq_getElem?_getD, List.getElem?_eq_getElem hs]; exact List.getElem_mem hs
theorem WF.nx_lt {n : Nat} {next : Tab} {ends : List Bool} (h : WF n next ends) {s l : Nat} (hs : s < next.length) (hl : l < n) : nx next s l < next.length := by
  have h1 := h.row_len hs
  have h2 := h.lt _ (h.row_mem hs)
  refine h2 _ ?_
  unfold nx
  rw [List.getD_eq_getElem?_getD (l := next.getD s []), List.getElem?_eq_getElem (by rw [h1]; exact hl)]
  exact List.getElem_mem _
theorem WF.succs_eq {n : Nat} {next : Tab} {ends : List Bool} (h : WF n next ends) {s : Nat} (hs : s < next.length) : succs n (nx next) s = next.getD s [] := by
  have h1 := h.row_len hs
  unfold succs nx
  generalize next.getD s [] = r at h1
  apply List.ext_getElem
  · simp [h1]
  · intro i h2 h3
    simp [List.getElem?_eq_getElem h3]

/-! ### the canonical automaton: its states are what may still follow, in the order in which these are met -/
noncomputable def canonOf (n : Nat) (D : List Lang) : Tab × List Bool := (D.map fun K => (resid n K).map fun K' => D.idxOf K', D.map fun K => K [])
def Can (n : Nat) (L : Lang) (A : Tab × List Bool) : Prop := ∃ N, (bfsI (resid n) L N).length ≤ N ∧ A = canonOf n (bfsI (resid n) L N)
theorem Can.unique {n : Nat} {L : Lang} {A B : Tab × List Bool} (h : Can n L A) (h' : Can n L B) : A = B := by
  obtain ⟨N, hN, rfl⟩ := h
  obtain ⟨M, hM, rfl⟩ := h'
  rw [bfsI_final (resid n) L hN hM]
theorem nx_canonOf {n : Nat} {D : List Lang} {i l : Nat} (hi : i < D.length) (hl : l < n) : nx (canonOf n D).1 i l = D.idxOf (D[i].tl l) := by
  have hr : ((canonOf n D).1).getD i [] = (resid n D[i]).map fun K' => D.idxOf K' := by
    simp only [canonOf, List.getD_eq_getElem?_getD, List.getElem?_map, List.getElem?_eq_getElem hi, Option.map_some, Option.getD_some]
  have hn : (resid n D[i])[l]? = some (D[i].tl l) := by
    simp [resid, hl]
  unfold nx
  rw [hr, List.getD_eq_getElem?_getD, List.getElem?_map, hn]; rfl
theorem en_canonOf {n : Nat} {D : List Lang} {i : Nat} (hi : i < D.length) : en (canonOf n D).2 i = D[i] [] := by
  simp [en, canonOf, List.getD_eq_getElem?_getD, List.getElem?_eq_getElem hi]
theorem lof_canonOf {n : Nat} {D : List Lang} (hc : ∀ K ∈ D, ∀ K' ∈ resid n K, K' ∈ D) (hp : ∀ K ∈ D, Proper n K) : ∀ (w : List Nat) (i : Nat) (hi : i < D.length), lof n (canonOf n D) i w = D[i] w := by
  intro w
  induction w with
  | nil => intro i hi; exact en_canonOf hi
  | cons l w ih =>
    intro i hi
    by_cases hl : l < n
    · have hm : D[i].tl l ∈ D := hc _ (List.getElem_mem hi) _ (by unfold resid; exact List.mem_map.2 ⟨l, List.mem_range.2 hl, rfl⟩)
      have hj := List.idxOf_lt_length_of_mem hm
      show lang n _ _ _ (l :: w) = _
      rw [lang_cons _ _ _ _ hl, nx_canonOf hi hl]
      have h2 := ih _ hj
      unfold lof at h2
      rw [h2, List.getElem_idxOf hj]; rfl
    · have h1 : D[i] (l :: w) = false := by
        cases h : D[i] (l :: w) with
        | false => rfl
        | true => exact absurd (hp _ (List.getElem_mem hi) _ h l (by simp)) hl
      rw [h1]
      simp [lof, lang, hl]
/-- what the canonical automaton is -/
theorem Can.wf {n : Nat} {L : Lang} {A : Tab × List Bool} (h : Can n L A) : WF n A.1 A.2 := by
  obtain ⟨N, hN, rfl⟩ := h
  refine ⟨?_, by simp [canonOf], ?_, ?_⟩
  · simp only [canonOf, List.length_map]; exact bfsI_pos _ _ _
  · intro r hr
    obtain ⟨K, _, rfl⟩ := List.mem_map.1 hr
    simp [resid]
  · intro r hr t ht
    obtain ⟨K, hK, rfl⟩ := List.mem_map.1 hr
    obtain ⟨K', hK', rfl⟩ := List.mem_map.1 ht
    simp only [canonOf, List.length_map]
    exact List.idxOf_lt_length_of_mem (bfsI_final_closed _ _ hN hK K' hK')
theorem Can.lof {n : Nat} {L : Lang} {A : Tab × List Bool} (h : Can n L A) (hL : Proper n L) : lof n A 0 = L := by
  obtain ⟨N, hN, rfl⟩ := h
  funext w
  have h0 := bfsI_head (resid n) L N
  obtain ⟨h1, h2⟩ := List.getElem?_eq_some_iff.1 h0
  rw [lof_canonOf (fun K hK => bfsI_final_closed _ _ hN hK) (bfsI_inv (resid n) L hL (fun K hK => resid_proper hK) N) w 0 h1, h2]
theorem Can.length {n : Nat} {L : Lang} {A : Tab × List Bool} (h : Can n L A) : ∃ N, (bfsI (resid n) L N).length ≤ N ∧ A.1.length = (bfsI (resid n) L N).length := by
  obtain ⟨N, hN, rfl⟩ := h
  exact ⟨N, hN, by simp [canonOf]⟩

/-! ### from any deterministic automaton: the languages of the states that are met -/
section
variable {α : Type} [DecidableEq α]
theorem bfs_lang (n : Nat) (d : α → Nat → α) (e : α → Bool) (a : α) {N : Nat} (hN : (bfsI (succs n d) a N).length ≤ N) :
    ∃ M, (bfsI (resid n) (lang n d e a) M).length ≤ M ∧ bfsI (resid n) (lang n d e a) M = dd ((bfsI (succs n d) a N).map (lang n d e)) := by
  obtain ⟨i', hi', hb⟩ := bfsI_quotient (succs n d) (resid n) (lang n d e) a (P := fun _ => True) trivial (fun _ _ _ _ => trivial) (fun x _ => resid_lang n d e x) N
  rw [List.take_of_length_le hN] at hi'
  exact ⟨i', by rw [hb, ← hi']; exact Nat.le_refl _, hb⟩
/-- the explored automaton of one over any states: rows by the numbers of what is met -/
def explored (n : Nat) (d : α → Nat → α) (e : α → Bool) (O : List α) : Tab × List Bool := (O.map fun x => (succs n d x).map fun y => O.idxOf y, O.map e)
theorem explored_wf (n : Nat) (d : α → Nat → α) (e : α → Bool) (a : α) {N : Nat} (hN : (bfsI (succs n d) a N).length ≤ N) : WF n (explored n d e (bfsI (succs n d) a N)).1 (explored n d e (bfsI (succs n d) a N)).2 := by
  refine ⟨?_, by simp [explored], ?_, ?_⟩
  · simp only [explored, List.length_map]; exact bfsI_pos _ _ _
  · intro r hr
    obtain ⟨x, _, rfl⟩ := List.mem_map.1 hr
    simp [succs]
  · intro r hr t ht
    obtain ⟨x, hx, rfl⟩ := List.mem_map.1 hr
    obtain ⟨y, hy, rfl⟩ := List.mem_map.1 ht
    simp only [explored, List.length_map]
    exact List.idxOf_lt_length_of_mem (bfsI_final_closed _ _ hN hx y hy)
theorem explored_lof (n : Nat) (d : α → Nat → α) (e : α → Bool) {O : List α} (hc : ∀ x ∈ O, ∀ y ∈ succs n d x, y ∈ O) : ∀ (w : List Nat) (i : Nat) (hi : i < O.length), lof n (explored n d e O) i w = lang n d e O[i] w := by
  intro w
  induction w with
  | nil => intro i hi; simp [lof, lang, en, explored, List.getD_eq_getElem?_getD, List.getElem?_eq_getElem hi]
  | cons l w ih =>
    intro i hi
    by_cases hl : l < n
    · have hm : d O[i] l ∈ O := hc _ (List.getElem_mem hi) _ (List.mem_map.2 ⟨l, List.mem_range.2 hl, rfl⟩)
      have hj := List.idxOf_lt_length_of_mem hm
      have hx : nx (explored n d e O).1 i l = O.idxOf (d O[i] l) := by
        have hr : ((explored n d e O).1).getD i [] = (succs n d O[i]).map fun y => O.idxOf y := by
          simp only [explored, List.getD_eq_getElem?_getD, List.getElem?_map, List.getElem?_eq_getElem hi, Option.map_some, Option.getD_some]
        unfold nx
        rw [hr, List.getD_eq_getElem?_getD, List.getElem?_map]
        simp [succs, hl]
      show lang n _ _ _ (l :: w) = _
      rw [lang_cons _ _ _ _ hl, lang_cons _ _ _ _ hl, hx]
      have h2 := ih _ hj
      unfold lof at h2
      rw [h2, List.getElem_idxOf hj]
    · simp [lof, lang, hl]
theorem explored_lof0 (n : Nat) (d : α → Nat → α) (e : α → Bool) (a : α) {N : Nat} (hN : (bfsI (succs n d) a N).length ≤ N) : lof n (explored n d e (bfsI (succs n d) a N)) 0 = lang n d e a := by
  funext w
  have h0 := bfsI_head (succs n d) a N
  obtain ⟨h1, h2⟩ := List.getElem?_eq_some_iff.1 h0
  rw [explored_lof n d e (fun x hx => bfsI_final_closed _ _ hN hx) w 0 h1, h2]
end
end Go.Proofs.Fil

/- What shrinks: classes refined till there are no more of them; it is the canonical automaton of the language. Plain lists, no program. -/
set_option linter.unusedVariables false
set_option linter.unusedSimpArgs false
namespace Go.Proofs.Fil

theorem bfsI_congr {α : Type} [DecidableEq α] (f g : α → List α) (a : α) {P : α → Prop} (h0 : P a) (hs : ∀ x, P x → ∀ t ∈ f x, P t) (hfg : ∀ x, P x → f x = g x) (i : Nat) : bfsI f a i = bfsI g a i := by
  induction i with
  | zero => rfl
  | succ i ih =>
    cases h : (bfsI f a i)[i]? with
    | none => rw [bfsI_succ_none f a h, bfsI_succ_none g a (by rw [← ih]; exact h), ih]
    | some x => rw [bfsI_succ_some f a h, bfsI_succ_some g a (by rw [← ih]; exact h), ← ih, hfg x (bfsI_inv f a h0 hs i x (List.mem_of_getElem? h))]
theorem nodup_map_refine {α β γ : Type} (f : α → β) (g : α → γ) {l : List α} (hg : (l.map g).Nodup) (h : ∀ a ∈ l, ∀ b ∈ l, f a = f b → g a = g b) : (l.map f).Nodup := by
  induction l with
  | nil => simp
  | cons x l ih =>
    rw [List.map_cons, List.nodup_cons] at hg ⊢
    refine ⟨fun hm => ?_, ih hg.2 (fun a ha b hb => h a (List.mem_cons_of_mem _ ha) b (List.mem_cons_of_mem _ hb))⟩
    obtain ⟨y, hy, he⟩ := List.mem_map.1 hm
    exact hg.1 (List.mem_map.2 ⟨y, hy, h y (List.mem_cons_of_mem _ hy) x (by simp) he⟩)
theorem full_of_length {α : Type} [DecidableEq α] {l U : List α} (hn : l.Nodup) (h : ∀ x ∈ l, x ∈ U) (hl : U.length ≤ l.length) : ∀ x ∈ U, x ∈ l := by
  intro x hx
  by_cases hm : x ∈ l
  · exact hm
  · have h1 : (x :: l).Nodup := List.nodup_cons.2 ⟨hm, hn⟩
    have h2 := nodup_length_le h1 (U := U) (fun y hy => by
      rcases List.mem_cons.1 hy with rfl | hy
      · exact hx
      · exact h y hy)
    simp at h2
    omega
/-- A finer way of telling apart that tells no more apart is the same. -/
theorem same_of_count {α β γ : Type} [DecidableEq β] [DecidableEq γ] (f : α → β) (g : α → γ) (xs : List α) (hr : ∀ s ∈ xs, ∀ t ∈ xs, f s = f t → g s = g t) (hl : (dd (xs.map f)).length ≤ (dd (xs.map g)).length) :
    ∀ s ∈ xs, ∀ t ∈ xs, g s = g t → f s = f t := by
  intro s hs t ht hg
  have hR := reps_subset g xs
  have hnd : ((reps g xs).map g).Nodup := by rw [reps_map]; exact dd_nodup _
  have hinj : ∀ r ∈ reps g xs, ∀ r' ∈ reps g xs, g r = g r' → r = r' := by
    intro r h1 r' h2 h3
    obtain ⟨i, hi, rfl⟩ := List.mem_iff_getElem.1 h1
    obtain ⟨j, hj, rfl⟩ := List.mem_iff_getElem.1 h2
    have : i = j := by
      have h4 := List.getElem_inj (xs := (reps g xs).map g) (h₀ := by simpa using hi) (h₁ := by simpa using hj) hnd
      exact h4.1 (by simpa using h3)
    subst this; rfl
  have hndf : ((reps g xs).map f).Nodup := nodup_map_refine f g hnd (fun a ha b hb he => hr a (hR a ha) b (hR b hb) he)
  have hfull := full_of_length hndf (U := dd (xs.map f)) (fun x hx => by
    obtain ⟨r, hr', rfl⟩ := List.mem_map.1 hx
    exact mem_dd.2 (List.mem_map_of_mem (hR r hr'))) (by rw [List.length_map, ← List.length_map (f := g), reps_map]; exact hl)
  have hs1 := hfull (f s) (mem_dd.2 (List.mem_map_of_mem hs))
  have ht1 := hfull (f t) (mem_dd.2 (List.mem_map_of_mem ht))
  obtain ⟨r, h1, h2⟩ := List.mem_map.1 hs1
  obtain ⟨r', h3, h4⟩ := List.mem_map.1 ht1
  have h5 : g r = g r' := by rw [hr r (hR r h1) s hs h2, hg, hr r' (hR r' h3) t ht h4]
  rw [← h2, ← h4, hinj r h1 r' h3 h5]

def rowOf (next : Tab) (s : Nat) : List Nat := next.getD s []
def ordOf (next : Tab) : List Nat := bfsI (rowOf next) 0 next.length
def kyOf (next : Tab) (cls : List Nat) (s : Nat) : List Nat := cls.getD s 0 :: (rowOf next s).map (fun t => cls.getD t 0)
def keysOf (next : Tab) (ord cls : List Nat) : List (List Nat) := dd (ord.map (kyOf next cls))
def freshOf (next : Tab) (ord cls : List Nat) : List Nat := (List.range next.length).map fun s => if s ∈ ord then (keysOf next ord cls).idxOf (kyOf next cls s) else 0
def cls0 (next : Tab) (ends : List Bool) (ord : List Nat) : List Nat := (List.range next.length).map fun s => if s ∈ ord ∧ en ends s = true then 1 else 0
def clsAt (next : Tab) (ends : List Bool) (ord : List Nat) : Nat → List Nat
  | 0 => cls0 next ends ord
  | j + 1 => freshOf next ord (clsAt next ends ord j)
def manyAt (next : Tab) (ends : List Bool) (ord : List Nat) : Nat → Nat
  | 0 => 0
  | j + 1 => (keysOf next ord (clsAt next ends ord j)).length
/-- one class after the other, in the order in which they are met -/
def outOf (next : Tab) (ends : List Bool) (cls xs : List Nat) : Tab × List Bool :=
  xs.foldl (fun o s => if cls.getD s 0 < o.1.length then o else (o.1 ++ [(rowOf next s).map (fun t => cls.getD t 0)], o.2 ++ [en ends s])) ([], [])
theorem outOf_snoc (next : Tab) (ends : List Bool) (cls xs : List Nat) (s : Nat) : outOf next ends cls (xs ++ [s]) =
    if cls.getD s 0 < (outOf next ends cls xs).1.length then outOf next ends cls xs else ((outOf next ends cls xs).1 ++ [(rowOf next s).map (fun t => cls.getD t 0)], (outOf next ends cls xs).2 ++ [en ends s]) := by
  simp [outOf, List.foldl_append]

section
variable {n : Nat} {next : Tab} {ends : List Bool} (h : WF n next ends)
include h
theorem WF.rowOf_eq {s : Nat} (hs : s < next.length) : succs n (nx next) s = rowOf next s := h.succs_eq hs
theorem ord_lt : ∀ s ∈ ordOf next, s < next.length :=
  bfsI_inv (rowOf next) 0 h.pos (fun x hx t ht => h.lt _ (h.row_mem hx) t ht) _
theorem ord_final : (ordOf next).length ≤ next.length := by
  have h1 := nodup_length_le (bfsI_nodup (rowOf next) 0 next.length) (U := List.range next.length) (fun x hx => List.mem_range.2 (ord_lt h x hx))
  simpa [ordOf] using h1
theorem ord_closed {s : Nat} (hs : s ∈ ordOf next) : ∀ t ∈ rowOf next s, t ∈ ordOf next := bfsI_final_closed (rowOf next) 0 (ord_final h) hs
theorem ord_eq : ordOf next = bfsI (succs n (nx next)) 0 next.length :=
  bfsI_congr (rowOf next) (succs n (nx next)) 0 (P := fun s => s < next.length) h.pos (fun x hx t ht => h.lt _ (h.row_mem hx) t ht) (fun x hx => (h.succs_eq hx).symm) _
omit h in
theorem clsAt_len (j : Nat) : (clsAt next ends (ordOf next) j).length = next.length := by cases j <;> simp [clsAt, cls0, freshOf]
theorem cls0_at {s : Nat} (hs : s ∈ ordOf next) : (clsAt next ends (ordOf next) 0).getD s 0 = if en ends s = true then 1 else 0 := by
  have := ord_lt h s hs
  simp [clsAt, cls0, List.getD_eq_getElem?_getD, this, hs]
theorem cls_at {s : Nat} (hs : s ∈ ordOf next) (j : Nat) : (clsAt next ends (ordOf next) (j + 1)).getD s 0 = (keysOf next (ordOf next) (clsAt next ends (ordOf next) j)).idxOf (kyOf next (clsAt next ends (ordOf next) j) s) := by
  have := ord_lt h s hs
  simp [clsAt, freshOf, List.getD_eq_getElem?_getD, this, hs]
theorem cls_same {s t : Nat} (hs : s ∈ ordOf next) (ht : t ∈ ordOf next) (j : Nat) : (clsAt next ends (ordOf next) (j + 1)).getD s 0 = (clsAt next ends (ordOf next) (j + 1)).getD t 0 ↔
    kyOf next (clsAt next ends (ordOf next) j) s = kyOf next (clsAt next ends (ordOf next) j) t := by
  rw [cls_at h hs, cls_at h ht]
  constructor
  · intro he
    have h1 : kyOf next (clsAt next ends (ordOf next) j) s ∈ keysOf next (ordOf next) (clsAt next ends (ordOf next) j) := mem_dd.2 (List.mem_map_of_mem hs)
    have h2 : kyOf next (clsAt next ends (ordOf next) j) t ∈ keysOf next (ordOf next) (clsAt next ends (ordOf next) j) := mem_dd.2 (List.mem_map_of_mem ht)
    rw [← List.getElem_idxOf (List.idxOf_lt_length_of_mem h1), ← List.getElem_idxOf (List.idxOf_lt_length_of_mem h2)]
    simp only [he]
  · intro he; rw [he]
theorem cls_le {s : Nat} (hs : s ∈ ordOf next) (j : Nat) : (clsAt next ends (ordOf next) j).getD s 0 ≤ next.length := by
  cases j with
  | zero => rw [cls0_at h hs]; have := h.pos; split <;> omega
  | succ j =>
    rw [cls_at h hs]
    have h1 : kyOf next (clsAt next ends (ordOf next) j) s ∈ keysOf next (ordOf next) (clsAt next ends (ordOf next) j) := mem_dd.2 (List.mem_map_of_mem hs)
    have h2 := List.idxOf_lt_length_of_mem h1
    have h3 := dd_length_le ((ordOf next).map (kyOf next (clsAt next ends (ordOf next) j)))
    have h4 := ord_final h
    rw [List.length_map] at h3
    unfold keysOf at h2 ⊢
    omega
theorem cls_all_le (s : Nat) (j : Nat) : (clsAt next ends (ordOf next) j).getD s 0 ≤ next.length := by
  by_cases hs : s ∈ ordOf next
  · exact cls_le h hs j
  · have : (clsAt next ends (ordOf next) j).getD s 0 = 0 := by
      by_cases hl : s < next.length
      · cases j <;> simp [clsAt, cls0, freshOf, List.getD_eq_getElem?_getD, hl, hs]
      · rw [List.getD_eq_getElem?_getD, List.getElem?_eq_none (by rw [clsAt_len]; omega)]; rfl
    omega
theorem many_le (j : Nat) : manyAt next ends (ordOf next) j ≤ next.length := by
  cases j with
  | zero => exact Nat.zero_le _
  | succ j =>
    have h3 := dd_length_le ((ordOf next).map (kyOf next (clsAt next ends (ordOf next) j)))
    have h4 := ord_final h
    rw [List.length_map] at h3
    simp only [manyAt, keysOf]
    omega
/-- a class of a later round is part of one of an earlier one -/
theorem key_refines {s t : Nat} (hs : s ∈ ordOf next) (ht : t ∈ ordOf next) (j : Nat) (he : kyOf next (clsAt next ends (ordOf next) (j + 1)) s = kyOf next (clsAt next ends (ordOf next) (j + 1)) t) :
    kyOf next (clsAt next ends (ordOf next) j) s = kyOf next (clsAt next ends (ordOf next) j) t := by
  have h1 := (List.cons_eq_cons.1 he).1
  exact (cls_same h hs ht j).1 h1
theorem many_mono (j : Nat) : manyAt next ends (ordOf next) j ≤ manyAt next ends (ordOf next) (j + 1) := by
  cases j with
  | zero => exact Nat.zero_le _
  | succ j =>
    simp only [manyAt, keysOf]
    -- the keys of the round before are told by the later ones
    have h1 := reps_subset (kyOf next (clsAt next ends (ordOf next) j)) (ordOf next)
    rw [← reps_map, ← reps_map, List.length_map, List.length_map]
    rw [← List.length_map (f := kyOf next (clsAt next ends (ordOf next) (j + 1))) (as := reps (kyOf next (clsAt next ends (ordOf next) j)) (ordOf next)), ← List.length_map (f := kyOf next (clsAt next ends (ordOf next) (j + 1))) (as := reps (kyOf next (clsAt next ends (ordOf next) (j + 1))) (ordOf next)), reps_map]
    refine nodup_length_le ?_ (fun x hx => ?_)
    · exact nodup_map_refine _ (kyOf next (clsAt next ends (ordOf next) j)) (by rw [reps_map]; exact dd_nodup _) (fun a ha b hb he => key_refines h (h1 a ha) (h1 b hb) j he)
    · obtain ⟨r, hr, rfl⟩ := List.mem_map.1 hx
      exact mem_dd.2 (List.mem_map_of_mem (h1 r hr))
omit h in
theorem many_pos (j : Nat) : 0 < manyAt next ends (ordOf next) (j + 1) := by
  simp only [manyAt, keysOf]
  have h0 : (0 : Nat) ∈ ordOf next := bfsI_mem _ _ _
  exact List.length_pos_of_mem (mem_dd.2 (List.mem_map_of_mem h0))
/-- the same language: the same class, always -/
theorem cls_of_lang (j : Nat) : ∀ s ∈ ordOf next, ∀ t ∈ ordOf next, lof n (next, ends) s = lof n (next, ends) t → (clsAt next ends (ordOf next) j).getD s 0 = (clsAt next ends (ordOf next) j).getD t 0 := by
  induction j with
  | zero =>
    intro s hs t ht he
    rw [cls0_at h hs, cls0_at h ht]
    have : en ends s = en ends t := congrFun he []
    rw [this]
  | succ j ih =>
    intro s hs t ht he
    rw [cls_same h hs ht j]
    have h0 := ih s hs t ht he
    have hsl := ord_lt h s hs
    have htl := ord_lt h t ht
    unfold kyOf
    rw [h0]
    congr 1
    rw [← h.rowOf_eq hsl, ← h.rowOf_eq htl]
    unfold succs
    rw [List.map_map, List.map_map]
    refine List.map_congr_left fun l hl => ?_
    have hl' : l < n := List.mem_range.1 hl
    refine ih _ (ord_closed h hs _ ?_) _ (ord_closed h ht _ ?_) ?_
    · rw [← h.rowOf_eq hsl]; exact List.mem_map.2 ⟨l, hl, rfl⟩
    · rw [← h.rowOf_eq htl]; exact List.mem_map.2 ⟨l, hl, rfl⟩
    · funext w
      have := congrFun he (l :: w)
      unfold lof at this ⊢
      rwa [lang_cons _ _ _ _ hl', lang_cons _ _ _ _ hl'] at this
/-- when no more classes come up, a class is a language -/
theorem lang_of_cls {j : Nat} (hstop : manyAt next ends (ordOf next) (j + 1) = manyAt next ends (ordOf next) j) : ∀ s ∈ ordOf next, ∀ t ∈ ordOf next,
    kyOf next (clsAt next ends (ordOf next) j) s = kyOf next (clsAt next ends (ordOf next) j) t → lof n (next, ends) s = lof n (next, ends) t := by
  cases j with
  | zero => have := many_pos (next := next) (ends := ends) 0; rw [hstop] at this; exact absurd this (by simp [manyAt])
  | succ j =>
    have hst := same_of_count (kyOf next (clsAt next ends (ordOf next) (j + 1))) (kyOf next (clsAt next ends (ordOf next) j)) (ordOf next) (fun s hs t ht he => key_refines h hs ht j he) (by simp only [manyAt, keysOf] at hstop; omega)
    have hends : ∀ i, ∀ s ∈ ordOf next, ∀ t ∈ ordOf next, kyOf next (clsAt next ends (ordOf next) i) s = kyOf next (clsAt next ends (ordOf next) i) t → en ends s = en ends t := by
      intro i
      induction i with
      | zero =>
        intro s hs t ht he
        have h1 := (List.cons_eq_cons.1 he).1
        rw [cls0_at h hs, cls0_at h ht] at h1
        cases h2 : en ends s <;> cases h3 : en ends t <;> simp_all
      | succ i ih => intro s hs t ht he; exact ih s hs t ht (key_refines h hs ht i he)
    intro s hs t ht he
    funext w
    induction w generalizing s t with
    | nil => exact hends _ s hs t ht he
    | cons l w ih =>
      by_cases hl : l < n
      · have hsl := ord_lt h s hs
        have htl := ord_lt h t ht
        have hms : nx next s l ∈ ordOf next := ord_closed h hs _ (by rw [← h.rowOf_eq hsl]; exact List.mem_map.2 ⟨l, List.mem_range.2 hl, rfl⟩)
        have hmt : nx next t l ∈ ordOf next := ord_closed h ht _ (by rw [← h.rowOf_eq htl]; exact List.mem_map.2 ⟨l, List.mem_range.2 hl, rfl⟩)
        have h1 := (List.cons_eq_cons.1 he).2
        rw [← h.rowOf_eq hsl, ← h.rowOf_eq htl] at h1
        have h2 : (clsAt next ends (ordOf next) (j + 1)).getD (nx next s l) 0 = (clsAt next ends (ordOf next) (j + 1)).getD (nx next t l) 0 := by
          have h3 := congrArg (fun x => x.getD l 0) h1
          simp only [succs, List.map_map, List.getD_eq_getElem?_getD, List.getElem?_map, List.getElem?_range hl, Option.map_some, Option.getD_some, Function.comp_apply] at h3
          simp only [List.getD_eq_getElem?_getD]
          exact h3
        have h3 := hst _ hms _ hmt ((cls_same h hms hmt j).1 h2)
        have h4 := ih _ hms _ hmt h3
        unfold lof at h4 ⊢
        rw [lang_cons _ _ _ _ hl, lang_cons _ _ _ _ hl]
        exact h4
      · simp [lof, lang, hl]
/-- the languages that are met -/
noncomputable def langsOf (n : Nat) (next : Tab) (ends : List Bool) : List Lang := dd ((ordOf next).map (lof n (next, ends)))
theorem key_iff {j : Nat} (hstop : manyAt next ends (ordOf next) (j + 1) = manyAt next ends (ordOf next) j) : ∀ s ∈ ordOf next, ∀ t ∈ ordOf next,
    (kyOf next (clsAt next ends (ordOf next) j) s = kyOf next (clsAt next ends (ordOf next) j) t ↔ lof n (next, ends) s = lof n (next, ends) t) :=
  fun s hs t ht => ⟨lang_of_cls h hstop s hs t ht, fun he => (cls_same h hs ht j).1 (cls_of_lang h (j + 1) s hs t ht he)⟩
theorem cls_langs {j : Nat} (hstop : manyAt next ends (ordOf next) (j + 1) = manyAt next ends (ordOf next) j) {s : Nat} (hs : s ∈ ordOf next) :
    (clsAt next ends (ordOf next) (j + 1)).getD s 0 = (langsOf n next ends).idxOf (lof n (next, ends) s) := by
  rw [cls_at h hs]
  exact idxOf_dd_congr _ _ _ (key_iff h hstop) hs
theorem many_langs {j : Nat} (hstop : manyAt next ends (ordOf next) (j + 1) = manyAt next ends (ordOf next) j) : manyAt next ends (ordOf next) (j + 1) = (langsOf n next ends).length :=
  length_dd_congr _ _ _ (key_iff h hstop)
omit h in
theorem idxOf_prefix {β : Type} [BEq β] [LawfulBEq β] {l m : List β} (hp : l <+: m) {x : β} : m.idxOf x < l.length ↔ x ∈ l := by
  obtain ⟨t, rfl⟩ := hp
  constructor
  · intro hlt
    by_cases hx : x ∈ l
    · exact hx
    · rw [List.idxOf_append, if_neg hx] at hlt; omega
  · intro hx
    rw [List.idxOf_append, if_pos hx]; exact List.idxOf_lt_length_of_mem hx
/-- what comes out, part for part -/
theorem outOf_part {j : Nat} (hstop : manyAt next ends (ordOf next) (j + 1) = manyAt next ends (ordOf next) j) (xs : List Nat) : xs <+: ordOf next →
    outOf next ends (clsAt next ends (ordOf next) (j + 1)) xs = ((dd (xs.map (lof n (next, ends)))).map (fun K => (resid n K).map (fun K' => (langsOf n next ends).idxOf K')), (dd (xs.map (lof n (next, ends)))).map (fun K => K [])) := by
  induction xs using snocInd with
  | nil => intro _; rfl
  | snoc xs s ih =>
    intro hp
    have hp1 : xs <+: ordOf next := (List.prefix_append xs [s]).trans hp
    have hs : s ∈ ordOf next := hp.subset (by simp)
    have ih := ih hp1
    have hpre : dd (xs.map (lof n (next, ends))) <+: langsOf n next ends := by
      obtain ⟨t, ht⟩ := hp1
      unfold langsOf
      rw [← ht, List.map_append, dd_append]
      exact addAll_prefix
    rw [outOf_snoc, ih, cls_langs h hstop hs]
    simp only [List.length_map]
    rw [List.map_append, dd_append]
    show _ = ((addAll _ [lof n (next, ends) s]).map _, (addAll _ [lof n (next, ends) s]).map _)
    rw [addAll_cons]
    by_cases hm : lof n (next, ends) s ∈ dd (xs.map (lof n (next, ends)))
    · rw [if_pos ((idxOf_prefix hpre).2 hm), if_pos hm, addAll_nil]
    · rw [if_neg (fun h' => hm ((idxOf_prefix hpre).1 h')), if_neg hm, addAll_nil, List.map_append, List.map_append]
      have hsl := ord_lt h s hs
      have hrow : (rowOf next s).map (fun t => (clsAt next ends (ordOf next) (j + 1)).getD t 0) = (resid n (lof n (next, ends) s)).map (fun K' => (langsOf n next ends).idxOf K') := by
        have h1 := resid_lang n (nx next) (en ends) s
        unfold lof
        rw [← h1, List.map_map, h.rowOf_eq hsl]
        refine List.map_congr_left fun t ht => ?_
        rw [cls_langs h hstop (ord_closed h hs t ht)]; rfl
      rw [hrow]; rfl
/-- WHAT SHRINKS IS THE CANONICAL AUTOMATON. -/
theorem outOf_can {j : Nat} (hstop : manyAt next ends (ordOf next) (j + 1) = manyAt next ends (ordOf next) j) : Can n (lof n (next, ends) 0) (outOf next ends (clsAt next ends (ordOf next) (j + 1)) (ordOf next)) := by
  obtain ⟨M, hM, hb⟩ := bfs_lang n (nx next) (en ends) 0 (N := next.length) (by rw [← ord_eq h]; exact ord_final h)
  rw [← ord_eq h] at hb
  refine ⟨M, hM, ?_⟩
  rw [outOf_part h hstop _ (List.prefix_refl _)]
  show _ = canonOf n (bfsI (resid n) (lang n (nx next) (en ends) 0) M)
  rw [hb]; rfl
theorem out_length {j : Nat} (hstop : manyAt next ends (ordOf next) (j + 1) = manyAt next ends (ordOf next) j) : (outOf next ends (clsAt next ends (ordOf next) (j + 1)) (ordOf next)).1.length = (langsOf n next ends).length := by
  rw [outOf_part h hstop _ (List.prefix_refl _), List.length_map]; rfl
end
end Go.Proofs.Fil

/- Lists of whole numbers as a program has them; what Shrink's loops have in hand, round by round. Plain lists. -/
set_option linter.unusedVariables false
set_option linter.unusedSimpArgs false
namespace Go.Proofs.Fil
def I (r : List Nat) : List Int := r.map fun (t : Nat) => (t : Int)
def II (m : Tab) : List (List Int) := m.map I
theorem I_len (r : List Nat) : (I r).length = r.length := by simp [I]
theorem II_len (m : Tab) : (II m).length = m.length := by simp [II]
theorem I_get (r : List Nat) (i : Nat) : (I r).getD i 0 = ((r.getD i 0 : Nat) : Int) := by
  simp only [I, List.getD_eq_getElem?_getD, List.getElem?_map]
  cases r[i]? <;> rfl
theorem II_get (m : Tab) (i : Nat) : (II m).getD i [] = I (m.getD i []) := by
  simp only [II, List.getD_eq_getElem?_getD, List.getElem?_map]
  cases m[i]? <;> rfl
theorem I_snoc (r : List Nat) (t : Nat) : I (r ++ [t]) = I r ++ [(t : Int)] := by simp [I]
theorem II_snoc (m : Tab) (r : List Nat) : II (m ++ [r]) = II m ++ [I r] := by simp [II]
theorem I_set (r : List Nat) (i t : Nat) : I (r.set i t) = (I r).set i (t : Int) := by simp [I, List.map_set]
theorem I_rep (n : Nat) : I (List.replicate n 0) = List.replicate n 0 := by simp [I]
theorem I_inj {r s : List Nat} (h : I r = I s) : r = s := by
  have := congrArg (List.map Int.toNat) h
  simpa [I, Function.comp_def] using this
theorem II_inj {r s : Tab} (h : II r = II s) : r = s := by
  have := congrArg (List.map (List.map Int.toNat)) h
  simpa [II, I, Function.comp_def] using this
theorem getD_at {α : Type} {l : List α} {i : Nat} (h : i < l.length) (d : α) : l.getD i d = l[i] := by
  rw [List.getD_eq_getElem?_getD, List.getElem?_eq_getElem h]; rfl

/-- which of N have been met -/
def metOf (N : Nat) (o : List Nat) : List Bool := (List.range N).map fun s => decide (s ∈ o)
theorem metOf_len (N : Nat) (o : List Nat) : (metOf N o).length = N := by simp [metOf]
theorem metOf_get {N s : Nat} (o : List Nat) (h : s < N) : (metOf N o).getD s false = decide (s ∈ o) := by
  simp [metOf, List.getD_eq_getElem?_getD, h]
theorem metOf_nil (N : Nat) : metOf N [] = List.replicate N false := by
  apply List.ext_getElem <;> simp [metOf]
theorem metOf_set (N s : Nat) (o : List Nat) : (metOf N o).set s true = metOf N (o ++ [s]) := by
  apply List.ext_getElem
  · simp [metOf]
  · intro i h1 h2
    simp only [metOf, List.getElem_set, List.getElem_map, List.getElem_range, List.mem_append, List.mem_singleton]
    by_cases e : s = i
    · simp [e]
    · have e' : ¬ i = s := fun h => e h.symm
      simp [e, e']

/-- a list whose first ones have been filled in -/
def fillOf (N : Nat) (xs : List Nat) (f : Nat → Nat) : List Nat := (List.range N).map fun s => if s ∈ xs then f s else 0
theorem fillOf_len (N : Nat) (xs : List Nat) (f : Nat → Nat) : (fillOf N xs f).length = N := by simp [fillOf]
theorem fillOf_nil (N : Nat) (f : Nat → Nat) : fillOf N [] f = List.replicate N 0 := by
  apply List.ext_getElem <;> simp [fillOf]
theorem fillOf_set (N s : Nat) (xs : List Nat) (f : Nat → Nat) (v : Nat) (hv : v = f s) : (fillOf N xs f).set s v = fillOf N (xs ++ [s]) f := by
  apply List.ext_getElem
  · simp [fillOf]
  · intro i h1 h2
    simp only [fillOf, List.getElem_set, List.getElem_map, List.getElem_range, List.mem_append, List.mem_singleton]
    by_cases e : s = i
    · subst e; simp [hv]
    · have e' : ¬ i = s := fun h => e h.symm
      simp [e, e']
theorem fillOf_skip (N s : Nat) (xs : List Nat) (f : Nat → Nat) (hv : f s = 0) : fillOf N xs f = fillOf N (xs ++ [s]) f := by
  apply List.ext_getElem
  · simp [fillOf]
  · intro i h1 h2
    simp only [fillOf, List.getElem_map, List.getElem_range, List.mem_append, List.mem_singleton]
    by_cases e : i = s
    · subst e; simp [hv]
    · simp [e]
theorem cls0_fill (next : Tab) (ends : List Bool) (ord : List Nat) : cls0 next ends ord = fillOf next.length ord (fun s => if en ends s = true then 1 else 0) := by
  unfold cls0 fillOf
  refine List.map_congr_left fun s _ => ?_
  by_cases h : s ∈ ord <;> simp [h]
theorem fresh_fill (next : Tab) (ord cls : List Nat) : freshOf next ord cls = fillOf next.length ord (fun s => (keysOf next ord cls).idxOf (kyOf next cls s)) := rfl

/-! ### keys as bytes -/
def enc2 (c : Nat) : List UInt8 := [UInt8.ofNat (c % 256), UInt8.ofNat (c / 256 % 256)]
def encK (k : List Nat) : List UInt8 := k.flatMap enc2
theorem encK_cons (c : Nat) (k : List Nat) : encK (c :: k) = enc2 c ++ encK k := by simp [encK]
theorem encK_snoc (c : Nat) (k : List Nat) : encK (k ++ [c]) = encK k ++ enc2 c := by simp [encK]
theorem encK_len (k : List Nat) : (encK k).length = 2 * k.length := by
  induction k with
  | nil => rfl
  | cons c k ih => rw [encK_cons, List.length_append, ih]; simp [enc2]; omega
theorem enc2_inj {a b : Nat} (ha : a < 65536) (hb : b < 65536) (h : enc2 a = enc2 b) : a = b := by
  unfold enc2 at h
  have h1 := congrArg UInt8.toNat (List.cons.inj h).1
  have h2 := congrArg UInt8.toNat (List.cons.inj (List.cons.inj h).2).1
  simp only [UInt8.toNat_ofNat'] at h1 h2
  omega
theorem encK_inj : ∀ {k m : List Nat}, (∀ c ∈ k, c < 65536) → (∀ c ∈ m, c < 65536) → encK k = encK m → k = m := by
  intro k
  induction k with
  | nil =>
    intro m _ _ h
    have := congrArg List.length h
    rw [encK_len, encK_len] at this
    exact (List.eq_nil_of_length_eq_zero (by simp at this; omega)).symm
  | cons c k ih =>
    intro m hk hm h
    cases m with
    | nil =>
      have := congrArg List.length h
      rw [encK_len, encK_len] at this
      simp at this
    | cons d m =>
      rw [encK_cons, encK_cons] at h
      obtain ⟨h1, h2⟩ := List.append_inj h (by simp [enc2])
      rw [enc2_inj (hk c (by simp)) (hm d (by simp)) h1, ih (fun c hc => hk c (List.mem_cons_of_mem _ hc)) (fun c hc => hm c (List.mem_cons_of_mem _ hc)) h2]
section
variable {n : Nat} {next : Tab} {ends : List Bool} (h : WF n next ends) (hN : next.length < 65536)
include h hN
theorem key_small (s j : Nat) : ∀ c ∈ kyOf next (clsAt next ends (ordOf next) j) s, c < 65536 := by
  intro c hc
  unfold kyOf at hc
  rcases List.mem_cons.1 hc with rfl | hc
  · exact Nat.lt_of_le_of_lt (cls_all_le h s j) hN
  · obtain ⟨t, _, rfl⟩ := List.mem_map.1 hc
    exact Nat.lt_of_le_of_lt (cls_all_le h t j) hN
/-- the keys as bytes, as they are met -/
def bkeys (next : Tab) (cls xs : List Nat) : List (List UInt8) := dd (xs.map fun s => encK (kyOf next cls s))
theorem bkey_iff (j s t : Nat) : encK (kyOf next (clsAt next ends (ordOf next) j) s) = encK (kyOf next (clsAt next ends (ordOf next) j) t) ↔ kyOf next (clsAt next ends (ordOf next) j) s = kyOf next (clsAt next ends (ordOf next) j) t :=
  ⟨fun he => encK_inj (key_small h hN s j) (key_small h hN t j) he, fun he => by rw [he]⟩
theorem bkeys_len (j : Nat) : (bkeys next (clsAt next ends (ordOf next) j) (ordOf next)).length = (keysOf next (ordOf next) (clsAt next ends (ordOf next) j)).length :=
  length_dd_congr _ _ _ (fun s _ t _ => bkey_iff h hN j s t)
theorem bkeys_idx (j : Nat) {s : Nat} (hs : s ∈ ordOf next) : (bkeys next (clsAt next ends (ordOf next) j) (ordOf next)).idxOf (encK (kyOf next (clsAt next ends (ordOf next) j) s)) = (keysOf next (ordOf next) (clsAt next ends (ordOf next) j)).idxOf (kyOf next (clsAt next ends (ordOf next) j) s) :=
  idxOf_dd_congr (fun s => encK (kyOf next (clsAt next ends (ordOf next) j) s)) (kyOf next (clsAt next ends (ordOf next) j)) (ordOf next) (fun s _ t _ => bkey_iff h hN j s t) hs
omit h hN in
theorem bkeys_prefix (cls : List Nat) {xs ys : List Nat} (hp : xs <+: ys) : bkeys next cls xs <+: bkeys next cls ys := by
  obtain ⟨t, rfl⟩ := hp
  unfold bkeys
  rw [List.map_append, dd_append]
  exact addAll_prefix
omit h hN in
theorem bkeys_snoc (cls xs : List Nat) (s : Nat) : bkeys next cls (xs ++ [s]) = if encK (kyOf next cls s) ∈ bkeys next cls xs then bkeys next cls xs else bkeys next cls xs ++ [encK (kyOf next cls s)] := by
  unfold bkeys
  rw [List.map_append, dd_append]
  show addAll _ [encK (kyOf next cls s)] = _
  rw [addAll_cons, addAll_nil]
  by_cases hm : encK (kyOf next cls s) ∈ dd (xs.map fun s => encK (kyOf next cls s))
  · rw [if_pos hm, if_pos hm]
  · rw [if_neg hm, if_neg hm]
end
theorem idxOf_of_prefix {β : Type} [BEq β] [LawfulBEq β] {l m : List β} (hp : l <+: m) {x : β} (hx : x ∈ l) : m.idxOf x = l.idxOf x := by
  obtain ⟨t, rfl⟩ := hp
  rw [List.idxOf_append, if_pos hx]
theorem take_snoc' {α : Type} {l : List α} {i : Nat} (h : i < l.length) : l.take (i + 1) = l.take i ++ [l[i]] := List.take_succ_eq_append_getElem h
theorem take_prefix' {α : Type} (l : List α) (i : Nat) : l.take i <+: l := List.take_prefix i l
end Go.Proofs.Fil

/- More on canonical automata: how many states. Plain lists, no program. -/
set_option linter.unusedVariables false
set_option linter.unusedSimpArgs false
namespace Go.Proofs.Fil
theorem bfs_small {n : Nat} {T : Tab} {ends : List Bool} (h : WF n T ends) : (bfsI (succs n (nx T)) 0 T.length).length ≤ T.length := by
  have h1 := bfsI_bound (succs n (nx T)) 0 (U := List.range T.length) (List.mem_range.2 h.pos) (fun x hx t ht => by
    obtain ⟨l, hl, rfl⟩ := List.mem_map.1 ht
    exact List.mem_range.2 (h.nx_lt (List.mem_range.1 hx) (List.mem_range.1 hl)))
  rwa [List.length_range] at h1
/-- as many languages as states at the most -/
theorem langs_le {α : Type} [DecidableEq α] {n : Nat} {d : α → Nat → α} {e : α → Bool} {a : α} {N : Nat} (hN : (bfsI (succs n d) a N).length ≤ N) {out : Tab × List Bool} (hc : Can n (lang n d e a) out) : out.1.length ≤ (bfsI (succs n d) a N).length := by
  obtain ⟨N', h1, h2⟩ := hc.length
  obtain ⟨M, h3, h4⟩ := bfs_lang n d e a hN
  rw [h2, bfsI_final (resid n) _ h1 h3, h4]
  have := dd_length_le ((bfsI (succs n d) a N).map (lang n d e))
  rwa [List.length_map] at this
theorem can_le {n : Nat} {T : Tab} {ends : List Bool} (h : WF n T ends) {out : Tab × List Bool} (hc : Can n (lof n (T, ends) 0) out) : out.1.length ≤ T.length :=
  Nat.le_trans (langs_le (bfs_small h) hc) (bfs_small h)
theorem can_lof {n : Nat} {T : Tab} {ends : List Bool} {s : Nat} {out : Tab × List Bool} (hc : Can n (lof n (T, ends) s) out) : lof n out 0 = lof n (T, ends) s := hc.lof (lang_proper _ _ _ _)
end Go.Proofs.Fil

/- Which states lead where: what turn.turned gathers. Plain lists, no program. -/
set_option linter.unusedVariables false
set_option linter.unusedSimpArgs false
namespace Go.Proofs.Fil
def pairsTo (n s : Nat) : List (Nat × Nat) := (List.range s).flatMap fun s' => (List.range n).map fun l => (s', l)
def pairsIn (n s l : Nat) : List (Nat × Nat) := pairsTo n s ++ (List.range l).map fun l' => (s, l')
theorem pairsIn_zero (n s : Nat) : pairsIn n s 0 = pairsTo n s := by simp [pairsIn]
theorem pairsIn_succ (n s l : Nat) : pairsIn n s (l + 1) = pairsIn n s l ++ [(s, l)] := by simp [pairsIn, List.range_succ]
theorem pairsIn_all (n s : Nat) : pairsIn n s n = pairsTo n (s + 1) := by simp [pairsIn, pairsTo, List.range_succ, List.flatMap_append]
theorem mem_pairsTo {n s : Nat} {p : Nat × Nat} : p ∈ pairsTo n s ↔ p.1 < s ∧ p.2 < n := by
  simp only [pairsTo, List.mem_flatMap, List.mem_range, List.mem_map]
  constructor
  · rintro ⟨s', hs, l, hl, rfl⟩; exact ⟨hs, hl⟩
  · rintro ⟨h1, h2⟩; exact ⟨p.1, h1, p.2, h2, rfl⟩
theorem pairsTo_length (n s : Nat) : (pairsTo n s).length = s * n := by
  induction s with
  | zero => simp [pairsTo]
  | succ s ih => rw [← pairsIn_all]; unfold pairsIn; rw [List.length_append, ih]; simp [Nat.add_mul]
theorem pairsIn_length (n s l : Nat) : (pairsIn n s l).length = s * n + l := by unfold pairsIn; rw [List.length_append, pairsTo_length]; simp
def predsOf (T : Tab) (n : Nat) (ps : List (Nat × Nat)) (j : Nat) : List Nat := (ps.filter fun p => nx T p.1 p.2 * n + p.2 = j).map (·.1)
theorem predsOf_nil (T : Tab) (n j : Nat) : predsOf T n [] j = [] := rfl
theorem predsOf_snoc (T : Tab) (n : Nat) (ps : List (Nat × Nat)) (s l j : Nat) : predsOf T n (ps ++ [(s, l)]) j = if nx T s l * n + l = j then predsOf T n ps j ++ [s] else predsOf T n ps j := by
  unfold predsOf
  rw [List.filter_append, List.map_append]
  by_cases h : nx T s l * n + l = j <;> simp [h]
theorem predsOf_len (T : Tab) (n : Nat) (ps : List (Nat × Nat)) (j : Nat) : (predsOf T n ps j).length ≤ ps.length := by
  unfold predsOf
  rw [List.length_map]
  exact List.length_filter_le _ _
theorem mul_add_inj {n a b c d : Nat} (hb : b < n) (hd : d < n) (h : a * n + b = c * n + d) : a = c ∧ b = d := by
  have h1 : (a * n + b) / n = a := by rw [Nat.mul_comm, Nat.mul_add_div (by omega), Nat.div_eq_of_lt hb, Nat.add_zero]
  have h2 : (c * n + d) / n = c := by rw [Nat.mul_comm, Nat.mul_add_div (by omega), Nat.div_eq_of_lt hd, Nat.add_zero]
  have h3 : a = c := by rw [← h1, ← h2, h]
  subst h3
  exact ⟨rfl, by omega⟩
/-- the states that lead into a set -/
def pre (T : Tab) (X : List Nat) (l : Nat) : List Nat := (List.range T.length).filter fun s => nx T s l ∈ X
theorem mem_pre {T : Tab} {X : List Nat} {l x : Nat} : x ∈ pre T X l ↔ x < T.length ∧ nx T x l ∈ X := by simp [pre]
theorem mem_gather {T : Tab} {n l : Nat} (hl : l < n) {X : List Nat} {x : Nat} : x ∈ X.flatMap (fun t => predsOf T n (pairsTo n T.length) (t * n + l)) ↔ x ∈ pre T X l := by
  rw [mem_pre]
  simp only [List.mem_flatMap, predsOf, List.mem_map, List.mem_filter, decide_eq_true_eq]
  constructor
  · rintro ⟨t, ht, p, ⟨hp, he⟩, rfl⟩
    obtain ⟨h1, h2⟩ := mem_pairsTo.1 hp
    obtain ⟨h3, h4⟩ := mul_add_inj h2 hl he
    rw [h4] at h3
    exact ⟨h1, by rw [h3]; exact ht⟩
  · rintro ⟨h1, h2⟩
    exact ⟨_, h2, (x, l), ⟨mem_pairsTo.2 ⟨h1, hl⟩, rfl⟩, rfl⟩
/-- the states at which a word ends -/
def fin (ends : List Bool) (s : Nat) : List Nat := (List.range s).filter fun x => en ends x
theorem fin_zero (ends : List Bool) : fin ends 0 = [] := rfl
theorem fin_succ (ends : List Bool) (s : Nat) : fin ends (s + 1) = if en ends s = true then fin ends s ++ [s] else fin ends s := by
  unfold fin
  rw [List.range_succ, List.filter_append]
  by_cases h : en ends s = true <;> simp [h]
theorem fin_len (ends : List Bool) (s : Nat) : (fin ends s).length ≤ s := by
  unfold fin
  have := List.length_filter_le (fun x => en ends x) (List.range s)
  rwa [List.length_range] at this
theorem mem_fin {ends : List Bool} {s x : Nat} : x ∈ fin ends s ↔ x < s ∧ en ends x = true := by simp [fin]
end Go.Proofs.Fil
