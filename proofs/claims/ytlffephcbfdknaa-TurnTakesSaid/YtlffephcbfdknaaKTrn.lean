/- The plain law of turning: the language from behind; as many sets as what may follow from behind. -/
import Derived.Test.YtlffephcbfdknaaKWk7
set_option linter.unusedVariables false
set_option linter.unusedSimpArgs false
namespace Go.Proofs.Ytlffephcbfdknaa.Wk
open Go.Proofs.Fil
def revL (L : Lang) : Lang := fun w => L w.reverse
theorem revL_rev (L : Lang) : revL (revL L) = L := by funext w; simp [revL]
theorem revL_proper {n : Nat} {L : Lang} (h : Proper n L) : Proper n (revL L) := fun w hw l hl => h _ hw l (by simpa using hl)
theorem zin_iff {X : List Nat} : zin X = true ↔ 0 ∈ X := by
  unfold zin
  rw [List.any_eq_true]
  constructor
  · rintro ⟨x, hx, h⟩
    have : x = 0 := by simpa using h
    exact this ▸ hx
  · intro h; exact ⟨0, h, rfl⟩
theorem run_lt {n : Nat} {T : Tab} {ends : List Bool} (h : WF n T ends) : ∀ (w : List Nat) {s : Nat}, (∀ l ∈ w, l < n) → s < T.length → w.foldl (nx T) s < T.length := by
  intro w
  induction w with
  | nil => intro s _ hs; exact hs
  | cons l w ih => intro s hw hs; exact ih (fun l' hl' => hw l' (List.mem_cons_of_mem _ hl')) (h.nx_lt hs (hw l (by simp)))
/-- Where a word leads, set by set. -/
theorem mem_turned {n : Nat} {T : Tab} {ends : List Bool} (h : WF n T ends) (hN : T.length ≤ 256) : ∀ (w : List Nat) (X : List Nat) (x : Nat), (∀ l ∈ w, l < n) → x < T.length → (x ∈ w.foldl (turnD T) X ↔ w.reverse.foldl (nx T) x ∈ X) := by
  intro w
  induction w with
  | nil => intro X x _ _; exact Iff.rfl
  | cons l w ih =>
    intro X x hw hx
    have hw' : ∀ l' ∈ w, l' < n := fun l' hl' => hw l' (List.mem_cons_of_mem _ hl')
    rw [List.foldl_cons, ih (turnD T X l) x hw' hx, List.reverse_cons, List.foldl_append]
    have hr := run_lt h w.reverse (s := x) (fun l' hl' => hw' l' (by simpa using hl')) hx
    unfold turnD
    rw [mem_nrm, mem_pre]
    exact ⟨fun h => h.2.2, fun h2 => ⟨by omega, hr, h2⟩⟩
theorem lang_turned {n : Nat} {T : Tab} {ends : List Bool} (h : WF n T ends) (hN : T.length ≤ 256) (X w : List Nat) : lang n (turnD T) zin X w = (w.all (fun l => decide (l < n)) && decide (w.reverse.foldl (nx T) 0 ∈ X)) := by
  rw [lang_run]
  by_cases hw : w.all (fun l => decide (l < n)) = true
  · rw [hw, Bool.true_and, Bool.true_and]
    have hw' : ∀ l ∈ w, l < n := fun l hl => by simpa using List.all_eq_true.1 hw l hl
    rw [Bool.eq_iff_iff, zin_iff, mem_turned h hN w X 0 hw' h.pos, decide_eq_true_iff]
  · rw [Bool.eq_false_iff.2 hw, Bool.false_and, Bool.false_and]
theorem lang_start {n : Nat} {T : Tab} {ends : List Bool} (h : WF n T ends) (hN : T.length ≤ 256) : lang n (turnD T) zin (nrm (fin ends T.length)) = revL (lof n (T, ends) 0) := by
  funext w
  rw [lang_turned h hN]
  show _ = lang n (nx T) (en ends) 0 w.reverse
  rw [lang_run]
  have e1 : w.reverse.all (fun l => decide (l < n)) = w.all (fun l => decide (l < n)) := by
    rw [Bool.eq_iff_iff, List.all_eq_true, List.all_eq_true]
    simp
  rw [e1]
  by_cases hw : w.all (fun l => decide (l < n)) = true
  · rw [hw, Bool.true_and, Bool.true_and]
    have hw' : ∀ l ∈ w.reverse, l < n := fun l hl => by simpa using List.all_eq_true.1 hw l (by simpa using hl)
    have hr := run_lt h w.reverse hw' h.pos
    rw [Bool.eq_iff_iff, decide_eq_true_iff, mem_nrm, mem_fin]
    exact ⟨fun h => h.2.2, fun h2 => ⟨by omega, hr, h2⟩⟩
  · rw [Bool.eq_false_iff.2 hw, Bool.false_and, Bool.false_and]
/-- WHAT IS TURNED TAKES A WORD JUST IF IT WAS TAKEN FROM BEHIND. -/
theorem turn_lang {n : Nat} {T : Tab} {ends : List Bool} (h : WF n T ends) (hN : T.length ≤ 256) (hO : (turnO n T ends).length ≤ 2000) : lof n (turnA n T ends) 0 = revL (lof n (T, ends) 0) := by
  rw [turnA_eq, ← lang_start h hN]
  exact explored_lof0 n (turnD T) zin (nrm (fin ends T.length)) (N := 2001) (by unfold turnO at hO; omega)
theorem dd_of_nodup {α : Type} [DecidableEq α] : ∀ {xs : List α}, xs.Nodup → dd xs = xs := by
  intro xs
  induction xs using snocInd with
  | nil => intro _; rfl
  | snoc xs s ih =>
    intro h
    rw [List.nodup_append] at h
    have hs : s ∉ xs := fun hm => h.2.2 s hm s (by simp) rfl
    rw [dd_append, ih h.1, addAll_cons, addAll_nil, if_neg hs]
theorem nrm_nrm (l : List Nat) : nrm (nrm l) = nrm l := by
  have h : ∀ x, x ∈ nrm l ↔ x ∈ nrm (nrm l) := fun x => by rw [mem_nrm (l := nrm l)]; exact ⟨fun h => ⟨(mem_nrm.1 h).1, h⟩, fun h => h.2⟩
  exact eq_of_sorted (fun a h => by omega) (fun a b h h' => by omega) (nrm_sorted _) (nrm_sorted _) (fun x => (h x).symm)
theorem bfs_resid_le {n : Nat} {L : Lang} {m : Tab × List Bool} (hm : Go.Proofs.Fil.Can n L m) (i : Nat) : (bfsI (resid n) L i).length ≤ m.1.length := by
  obtain ⟨N, hN, hl⟩ := hm.length
  rw [hl]
  rcases Nat.le_total i N with h | h
  · exact (bfsI_prefix (resid n) L h).length_le
  · rw [bfsI_stop (resid n) L hN h]; exact Nat.le_refl _
/-- As many sets as residuals, at the most: every state being met. -/
theorem turn_few {n : Nat} {T : Tab} {ends : List Bool} (h : WF n T ends) (hN : T.length ≤ 256) (hmet : ∀ x, x < T.length → ∃ u : List Nat, (∀ l ∈ u, l < n) ∧ u.foldl (nx T) 0 = x) {m : Tab × List Bool} (hm : Go.Proofs.Fil.Can n (revL (lof n (T, ends) 0)) m) (i : Nat) :
    (bfsI (succs n (turnD T)) (nrm (fin ends T.length)) i).length ≤ m.1.length := by
  obtain ⟨i', hi', hb⟩ := bfsI_quotient (succs n (turnD T)) (resid n) (lang n (turnD T) zin) (nrm (fin ends T.length)) (P := fun _ => True) trivial (fun _ _ _ _ => trivial) (fun x _ => resid_lang n (turnD T) zin x) i
  rw [lang_start h hN] at hb
  have h1 := bfs_resid_le hm i'
  rw [hb] at h1
  have hP : ∀ X ∈ bfsI (succs n (turnD T)) (nrm (fin ends T.length)) i, X = nrm X ∧ ∀ x ∈ X, x < T.length := bfsI_inv (succs n (turnD T)) _ (P := fun X => X = nrm X ∧ ∀ x ∈ X, x < T.length) ⟨(nrm_nrm _).symm, fun x hx => (mem_fin.1 (mem_nrm.1 hx).2).1⟩ (fun X _ Y hY => by
    obtain ⟨l, _, rfl⟩ := List.mem_map.1 hY
    exact ⟨(nrm_nrm _).symm, fun x hx => (mem_pre.1 (mem_nrm.1 hx).2).1⟩) i
  have h2 : (dd ((bfsI (succs n (turnD T)) (nrm (fin ends T.length)) i).map (lang n (turnD T) zin))).length = (dd ((bfsI (succs n (turnD T)) (nrm (fin ends T.length)) i).map id)).length := by
    refine length_dd_congr _ _ _ (fun X hX Y hY => ⟨fun he => ?_, fun he => by rw [show X = Y from he]⟩)
    show X = Y
    rw [(hP X hX).1, (hP Y hY).1]
    have key : ∀ x, x < T.length → (x ∈ X ↔ x ∈ Y) := fun x hx => by
      obtain ⟨u, hu, rfl⟩ := hmet x hx
      have h3 := congrFun he u.reverse
      rw [lang_turned h hN, lang_turned h hN, List.reverse_reverse] at h3
      have h4 : u.reverse.all (fun l => decide (l < n)) = true := by
        rw [List.all_eq_true]
        intro l hl
        exact decide_eq_true (hu l (by simpa using hl))
      rw [h4, Bool.true_and, Bool.true_and] at h3
      exact decide_eq_decide.1 h3
    exact nrm_congr (fun x => ⟨fun hx => (key x ((hP X hX).2 x hx)).1 hx, fun hx => (key x ((hP Y hY).2 x hx)).2 hx⟩)
  rw [h2, List.map_id, dd_of_nodup (bfsI_nodup _ _ _)] at h1
  exact h1
/-- In a canonical automaton every state is met. -/
theorem can_met {n : Nat} {L : Lang} {A : Tab × List Bool} (hc : Go.Proofs.Fil.Can n L A) : ∀ x, x < A.1.length → ∃ u : List Nat, (∀ l ∈ u, l < n) ∧ u.foldl (nx A.1) 0 = x := by
  obtain ⟨N, hN, rfl⟩ := hc
  obtain ⟨D, hD⟩ : ∃ D, D = bfsI (resid n) L N := ⟨_, rfl⟩
  have hnd : D.Nodup := by rw [hD]; exact bfsI_nodup _ _ _
  have hcl : ∀ K ∈ D, ∀ K' ∈ resid n K, K' ∈ D := fun K hK => by rw [hD] at hK ⊢; exact bfsI_final_closed (resid n) L hN hK
  have hL : D[0]? = some L := by rw [hD]; exact bfsI_head _ _ _
  have key : ∀ K ∈ bfsI (resid n) L N, K ∈ D ∧ ∃ u : List Nat, (∀ l ∈ u, l < n) ∧ u.foldl (nx (canonOf n D).1) 0 = D.idxOf K := by
    refine bfsI_inv (resid n) L (P := fun K => K ∈ D ∧ ∃ u : List Nat, (∀ l ∈ u, l < n) ∧ u.foldl (nx (canonOf n D).1) 0 = D.idxOf K) ⟨List.mem_of_getElem? hL, [], by simp, ?_⟩ ?_ N
    · cases D with
      | nil => simp at hL
      | cons K D =>
        simp only [List.getElem?_cons_zero, Option.some.injEq] at hL
        subst hL
        simp
    · rintro K ⟨hK, u, hu, he⟩ K' hK'
      obtain ⟨l, hl, rfl⟩ := mem_resid hK'
      refine ⟨hcl K hK _ hK', u ++ [l], fun l' hl' => ?_, ?_⟩
      · rcases List.mem_append.1 hl' with h | h
        · exact hu l' h
        · rw [List.mem_singleton.1 h]; exact hl
      · rw [List.foldl_append, he]
        show nx (canonOf n D).1 (D.idxOf K) l = _
        have hi := List.idxOf_lt_length_of_mem hK
        rw [nx_canonOf hi hl, List.getElem_idxOf hi]
  rw [← hD] at key ⊢
  intro x hx
  have hlen : (canonOf n D).1.length = D.length := by simp [canonOf]
  rw [hlen] at hx
  obtain ⟨_, u, hu, he⟩ := key _ (List.getElem_mem hx)
  exact ⟨u, hu, by rw [he]; exact hnd.idxOf_getElem x hx⟩
/-- TURNED TWICE IT IS THE LEAST AUTOMATON: few sets come up, and it is the canonical automaton of the first language. -/
theorem turn_twice {n : Nat} {L : Lang} (hL : Proper n L) {out m : Tab × List Bool} (hout : Go.Proofs.Fil.Can n L out) (hm : Go.Proofs.Fil.Can n (revL L) m) (h80 : out.1.length ≤ 80) (hm80 : m.1.length ≤ 80) :
    (turnO n m.1 m.2).length ≤ 80 ∧ lof n (turnA n m.1 m.2) 0 = L := by
  have hlm : lof n (m.1, m.2) 0 = revL L := hm.lof (revL_proper hL)
  have h1 : (turnO n m.1 m.2).length ≤ 80 := by
    have h2 := turn_few hm.wf (by omega) (can_met hm) (m := out) (by rw [hlm, revL_rev]; exact hout) 2001
    unfold turnO
    omega
  refine ⟨h1, ?_⟩
  rw [turn_lang hm.wf (by omega) (by omega), hlm, revL_rev]
end Go.Proofs.Ytlffephcbfdknaa.Wk
