/- Several texts in one: The plain law of leaving letters out: the language of the sets; closed under some letters ahead. -/
import Derived.Test.YtlffephcbfdknaaK4
import Derived.Test.YtlffephcbfdknaaK1
import Derived.Test.YtlffephcbfdknaaK2
/- The plain law of leaving letters out: the language of the sets; closed under some letters ahead. -/
set_option linter.unusedVariables false
set_option linter.unusedSimpArgs false
namespace Go.Proofs.Ytlffephcbfdknaa.Wk
open Go.Proofs.Fil
/-- letter by letter one of those that are read so -/
def Fits (wt : Nat → List Nat) : List Nat → List Nat → Prop
  | [], [] => True
  | k :: u, l :: w => k ∈ wt l ∧ Fits wt u w
  | _, _ => False
theorem fits_nil {wt : Nat → List Nat} {u : List Nat} : Fits wt u [] ↔ u = [] := by cases u <;> simp [Fits]
theorem fits_cons {wt : Nat → List Nat} {u w : List Nat} {l : Nat} : Fits wt u (l :: w) ↔ ∃ k u', u = k :: u' ∧ k ∈ wt l ∧ Fits wt u' w := by
  cases u with
  | nil => simp [Fits]
  | cons k u =>
    simp only [Fits, List.cons.injEq]
    constructor
    · rintro ⟨h1, h2⟩; exact ⟨k, u, ⟨rfl, rfl⟩, h1, h2⟩
    · rintro ⟨k', u', ⟨rfl, rfl⟩, h1, h2⟩; exact ⟨h1, h2⟩
theorem fits_lt {wt : Nat → List Nat} {n n' : Nat} (hw : ∀ l, l < n' → ∀ k ∈ wt l, k < n) : ∀ {w u : List Nat}, Fits wt u w → (∀ l ∈ w, l < n') → ∀ k ∈ u, k < n := by
  intro w
  induction w with
  | nil => intro u h _ k hk; rw [fits_nil.1 h] at hk; cases hk
  | cons l w ih =>
    intro u h hl k hk
    obtain ⟨k', u', rfl, h1, h2⟩ := fits_cons.1 h
    rcases List.mem_cons.1 hk with rfl | hk
    · exact hw l (hl l (by simp)) _ h1
    · exact ih h2 (fun l' hl' => hl l' (List.mem_cons_of_mem _ hl')) k hk
theorem fits_append {wt : Nat → List Nat} : ∀ {w u w' u' : List Nat}, Fits wt u w → Fits wt u' w' → Fits wt (u ++ u') (w ++ w') := by
  intro w
  induction w with
  | nil => intro u w' u' h h'; rw [fits_nil.1 h]; exact h'
  | cons l w ih =>
    intro u w' u' h h'
    obtain ⟨k, v, rfl, h1, h2⟩ := fits_cons.1 h
    exact ⟨h1, ih h2 h'⟩
/-- what is taken of those that fit, perhaps behind some letters ahead -/
noncomputable def someL (n' : Nat) (wt : Nat → List Nat) (ze : List Nat) (L : Lang) : Lang := fun w =>
  @decide ((∀ l ∈ w, l < n') ∧ ∃ z u, (∀ k ∈ z, k ∈ ze) ∧ Fits wt u w ∧ L (z ++ u) = true) (Classical.propDecidable _)
theorem someL_iff {n' : Nat} {wt : Nat → List Nat} {ze : List Nat} {L : Lang} {w : List Nat} : someL n' wt ze L w = true ↔ (∀ l ∈ w, l < n') ∧ ∃ z u, (∀ k ∈ z, k ∈ ze) ∧ Fits wt u w ∧ L (z ++ u) = true := by
  unfold someL
  exact @decide_eq_true_iff _ (Classical.propDecidable _)
theorem someL_proper {n' : Nat} {wt : Nat → List Nat} {ze : List Nat} {L : Lang} : Proper n' (someL n' wt ze L) := fun w h => (someL_iff.1 h).1
/-- one letter, set by set -/
def outS (T : Tab) (wt : Nat → List Nat) (X : List Nat) (l : Nat) : List Nat := X.flatMap fun s => (wt l).map fun k => nx T s k
def stepS (T : Tab) (wt : Nat → List Nat) (X : List Nat) (l : Nat) : List Nat := nrm (outS T wt X l)
def eSet (ends : List Bool) (X : List Nat) : Bool := X.any (en ends)
theorem mem_outS {T : Tab} {wt : Nat → List Nat} {X : List Nat} {l x : Nat} : x ∈ outS T wt X l ↔ ∃ s ∈ X, ∃ k ∈ wt l, nx T s k = x := by
  simp [outS]
theorem outS_lt {n n' : Nat} {T : Tab} {ends : List Bool} (h : WF n T ends) {wt : Nat → List Nat} (hw : ∀ l, l < n' → ∀ k ∈ wt l, k < n) {X : List Nat} (hX : ∀ x ∈ X, x < T.length) {l : Nat} (hl : l < n') : ∀ x ∈ outS T wt X l, x < T.length := by
  intro x hx
  obtain ⟨s, hs, k, hk, rfl⟩ := mem_outS.1 hx
  exact h.nx_lt (hX s hs) (hw l hl k hk)
theorem stepS_lt {n n' : Nat} {T : Tab} {ends : List Bool} (h : WF n T ends) {wt : Nat → List Nat} (hw : ∀ l, l < n' → ∀ k ∈ wt l, k < n) {X : List Nat} (hX : ∀ x ∈ X, x < T.length) {l : Nat} (hl : l < n') : ∀ x ∈ stepS T wt X l, x < T.length :=
  fun x hx => outS_lt h hw hX hl x (mem_nrm.1 hx).2
theorem lof_cons {n : Nat} {T : Tab} {ends : List Bool} {s k : Nat} {u : List Nat} (hk : k < n) : lof n (T, ends) s (k :: u) = lof n (T, ends) (nx T s k) u := lang_cons _ _ _ _ hk _
theorem lang_sets {n n' : Nat} {T : Tab} {ends : List Bool} (h : WF n T ends) (hN : T.length ≤ 256) {wt : Nat → List Nat} (hw : ∀ l, l < n' → ∀ k ∈ wt l, k < n) : ∀ (w X : List Nat), (∀ x ∈ X, x < T.length) →
    (lang n' (stepS T wt) (eSet ends) X w = true ↔ (∀ l ∈ w, l < n') ∧ ∃ s ∈ X, ∃ u, Fits wt u w ∧ lof n (T, ends) s u = true) := by
  intro w
  induction w with
  | nil =>
    intro X hX
    simp only [lang, eSet, List.any_eq_true, List.not_mem_nil, false_implies, implies_true, true_and, fits_nil]
    constructor
    · rintro ⟨s, hs, he⟩; exact ⟨s, hs, [], rfl, he⟩
    · rintro ⟨s, hs, u, rfl, he⟩; exact ⟨s, hs, he⟩
  | cons l w ih =>
    intro X hX
    simp only [lang, Bool.and_eq_true, decide_eq_true_eq]
    constructor
    · rintro ⟨hl, h2⟩
      obtain ⟨h3, s', hs', u, hf, he⟩ := (ih _ (stepS_lt h hw hX hl)).1 h2
      obtain ⟨s, hs, k, hk, rfl⟩ := mem_outS.1 (mem_nrm.1 hs').2
      refine ⟨fun l' hl' => (List.mem_cons.1 hl').elim (fun e => e ▸ hl) (h3 l'), s, hs, k :: u, ⟨hk, hf⟩, ?_⟩
      rw [lof_cons (hw l hl k hk)]
      exact he
    · rintro ⟨h1, s, hs, u, hf, he⟩
      have hl := h1 l (by simp)
      obtain ⟨k, u', rfl, hk, hf'⟩ := fits_cons.1 hf
      rw [lof_cons (hw l hl k hk)] at he
      refine ⟨hl, (ih _ (stepS_lt h hw hX hl)).2 ⟨fun l' hl' => h1 l' (List.mem_cons_of_mem _ hl'), nx T s k, mem_nrm.2 ⟨?_, mem_outS.2 ⟨s, hs, k, hk, rfl⟩⟩, u', hf', he⟩⟩
      have := h.nx_lt (hX s hs) (hw l hl k hk)
      omega
/-- the states to which words of some letters lead -/
def clo (T : Tab) (ze : List Nat) : List Nat := bfsI (fun s => ze.map (nx T s)) 0 T.length
theorem clo_lt {n : Nat} {T : Tab} {ends : List Bool} (h : WF n T ends) {ze : List Nat} (hz : ∀ k ∈ ze, k < n) : ∀ x ∈ clo T ze, x < T.length :=
  bfsI_inv _ 0 (P := fun s => s < T.length) h.pos (fun x hx t ht => by
    obtain ⟨k, hk, rfl⟩ := List.mem_map.1 ht
    exact h.nx_lt hx (hz k hk)) _
theorem clo_final {n : Nat} {T : Tab} {ends : List Bool} (h : WF n T ends) {ze : List Nat} (hz : ∀ k ∈ ze, k < n) : (clo T ze).length ≤ T.length := by
  have h1 := bfsI_bound (fun s => ze.map (nx T s)) 0 (U := List.range T.length) (List.mem_range.2 h.pos) (fun x hx t ht => by
    obtain ⟨k, hk, rfl⟩ := List.mem_map.1 ht
    exact List.mem_range.2 (h.nx_lt (List.mem_range.1 hx) (hz k hk)))
  rwa [List.length_range] at h1
theorem mem_clo {n : Nat} {T : Tab} {ends : List Bool} (h : WF n T ends) {ze : List Nat} (hz : ∀ k ∈ ze, k < n) {x : Nat} : x ∈ clo T ze ↔ ∃ z : List Nat, (∀ k ∈ z, k ∈ ze) ∧ z.foldl (nx T) 0 = x := by
  constructor
  · intro hx
    refine bfsI_inv (fun s => ze.map (nx T s)) 0 (P := fun x => ∃ z : List Nat, (∀ k ∈ z, k ∈ ze) ∧ z.foldl (nx T) 0 = x) ⟨[], by simp, rfl⟩ ?_ _ x hx
    rintro y ⟨z, hz', rfl⟩ t ht
    obtain ⟨k, hk, rfl⟩ := List.mem_map.1 ht
    refine ⟨z ++ [k], fun k' hk' => ?_, by rw [List.foldl_append]; rfl⟩
    rcases List.mem_append.1 hk' with h1 | h1
    · exact hz' k' h1
    · rw [List.mem_singleton.1 h1]; exact hk
  · rintro ⟨z, hz', rfl⟩
    induction z using snocInd with
    | nil => exact bfsI_mem _ _ _
    | snoc z k ih =>
      rw [List.foldl_append]
      exact bfsI_final_closed _ _ (clo_final h hz) (ih (fun k' hk' => hz' k' (List.mem_append_left _ hk'))) _ (List.mem_map.2 ⟨k, hz' k (by simp), rfl⟩)
theorem lof_append {n : Nat} {T : Tab} {ends : List Bool} {s : Nat} {z u : List Nat} (hz : ∀ k ∈ z, k < n) : lof n (T, ends) s (z ++ u) = lof n (T, ends) (z.foldl (nx T) s) u := by
  induction z generalizing s with
  | nil => rfl
  | cons k z ih =>
    rw [List.cons_append, lof_cons (hz k (by simp)), ih (fun k' hk' => hz k' (List.mem_cons_of_mem _ hk'))]
    rfl
/-- the first set -/
def firstS (T : Tab) (ze : List Nat) : List Nat := nrm (clo T ze)
theorem mem_firstS {n : Nat} {T : Tab} {ends : List Bool} (h : WF n T ends) (hN : T.length ≤ 256) {ze : List Nat} (hz : ∀ k ∈ ze, k < n) {x : Nat} : x ∈ firstS T ze ↔ x ∈ clo T ze := by
  unfold firstS
  rw [mem_nrm]
  exact ⟨fun h => h.2, fun h2 => ⟨by have := clo_lt h hz x h2; omega, h2⟩⟩
theorem lang_first {n n' : Nat} {T : Tab} {ends : List Bool} (h : WF n T ends) (hN : T.length ≤ 256) {wt : Nat → List Nat} (hw : ∀ l, l < n' → ∀ k ∈ wt l, k < n) {ze : List Nat} (hz : ∀ k ∈ ze, k < n) :
    lang n' (stepS T wt) (eSet ends) (firstS T ze) = someL n' wt ze (lof n (T, ends) 0) := by
  funext w
  rw [Bool.eq_iff_iff, someL_iff, lang_sets h hN hw w _ (fun x hx => clo_lt h hz x ((mem_firstS h hN hz).1 hx))]
  refine and_congr_right (fun hl => ?_)
  constructor
  · rintro ⟨s, hs, u, hf, he⟩
    obtain ⟨z, hz', rfl⟩ := (mem_clo h hz).1 ((mem_firstS h hN hz).1 hs)
    exact ⟨z, u, hz', hf, by rw [lof_append (fun k hk => hz k (hz' k hk))]; exact he⟩
  · rintro ⟨z, u, hz', hf, he⟩
    rw [lof_append (fun k hk => hz k (hz' k hk))] at he
    exact ⟨_, (mem_firstS h hN hz).2 ((mem_clo h hz).2 ⟨z, hz', rfl⟩), u, hf, he⟩
/-- the sets that come up, and the automaton of them -/
def someO (n' : Nat) (T : Tab) (wt : Nat → List Nat) (ze : List Nat) : List (List Nat) := bfsI (succs n' (stepS T wt)) (firstS T ze) 2001
def someA (n' : Nat) (T : Tab) (ends : List Bool) (wt : Nat → List Nat) (ze : List Nat) : Tab × List Bool := (rowsTo n' (stepS T wt) (someO n' T wt ze) (someO n' T wt ze).length, (someO n' T wt ze).map (eSet ends))
theorem someA_eq (n' : Nat) (T : Tab) (ends : List Bool) (wt : Nat → List Nat) (ze : List Nat) : someA n' T ends wt ze = explored n' (stepS T wt) (eSet ends) (someO n' T wt ze) := by
  unfold someA
  generalize someO n' T wt ze = O
  rw [rowsTo_all n' (stepS T wt) (eSet ends)]
  rfl
theorem someA_fst (n' : Nat) (T : Tab) (ends : List Bool) (wt : Nat → List Nat) (ze : List Nat) : (someA n' T ends wt ze).1 = rowsTo n' (stepS T wt) (someO n' T wt ze) (someO n' T wt ze).length := by simp only [someA]
theorem someA_snd (n' : Nat) (T : Tab) (ends : List Bool) (wt : Nat → List Nat) (ze : List Nat) : (someA n' T ends wt ze).2 = (someO n' T wt ze).map (eSet ends) := by simp only [someA]
theorem someA_wf {n' : Nat} {T : Tab} {ends : List Bool} {wt : Nat → List Nat} {ze : List Nat} (h : (someO n' T wt ze).length ≤ 2000) : WF n' (someA n' T ends wt ze).1 (someA n' T ends wt ze).2 := by
  rw [someA_eq]
  exact explored_wf n' (stepS T wt) (eSet ends) (firstS T ze) (N := 2001) (by unfold someO at h; omega)
theorem someA_lof {n n' : Nat} {T : Tab} {ends : List Bool} (h : WF n T ends) (hN : T.length ≤ 256) {wt : Nat → List Nat} (hw : ∀ l, l < n' → ∀ k ∈ wt l, k < n) {ze : List Nat} (hz : ∀ k ∈ ze, k < n) (hO : (someO n' T wt ze).length ≤ 2000) :
    lof n' (someA n' T ends wt ze) 0 = someL n' wt ze (lof n (T, ends) 0) := by
  rw [someA_eq, ← lang_first h hN hw hz]
  exact explored_lof0 n' (stepS T wt) (eSet ends) (firstS T ze) (N := 2001) (by unfold someO at hO; omega)
end Go.Proofs.Ytlffephcbfdknaa.Wk

/- Walk by hand: some.left's step. -/
set_option linter.unusedVariables false
set_option linter.unusedSimpArgs false
namespace Go.Proofs.Ytlffephcbfdknaa.Wk
open Go.RowKit Go.Proofs.YtlffephcbfdknaaW.PrintWords Go.Proofs.YtlffephcbfdknaaW.PrintMore Go.Proofs.YtlffephcbfdknaaW.PrintLast Go.Proofs.Sep Go.Proofs.Fil

/-- slices as they lie in a row of slices -/
def encS (p : Option Addr × Nat × Nat) : Value := .slice p.1 p.2.1 p.2.2
theorem encS_one (p : Option Addr × Nat × Nat) : (encS p).oneCell' = true := rfl
abbrev kS : Kd (Option Addr × Nat × Nat) := Kd.scalar encS encS_one
abbrev zS : Option Addr × Nat × Nat := (none, 0, 0)
theorem I_app (a b : List Nat) : I (a ++ b) = I a ++ I b := by simp [I]
theorem outS_succ (T : Tab) (wt : Nat → List Nat) (X : List Nat) (l i : Nat) (h : i < X.length) : outS T wt (X.take (i + 1)) l = outS T wt (X.take i) l ++ (wt l).map (nx T (X.getD i 0)) := by
  unfold outS
  rw [take_snoc' h, List.flatMap_append, getD_at h]
  simp
theorem outS_len {T : Tab} {wt : Nat → List Nat} {l m : Nat} (hw : (wt l).length ≤ m) : ∀ X : List Nat, (outS T wt X l).length ≤ X.length * m := by
  intro X
  unfold outS
  induction X with
  | nil => simp
  | cons x X ih =>
    rw [List.flatMap_cons, List.length_append, List.length_map, List.length_cons, Nat.add_mul]
    omega
set_option maxRecDepth 100000 in
set_option maxHeartbeats 4000000 in
theorem left1_calls {b : Nat} {F : Nat → Prop} {w0 W : World} {Lx : List Res} (n n' : Nat) (T : Tab) (ends : List Bool) (hwf : WF n T ends) (hN : T.length ≤ 80) (hn : n ≤ 36) (hn' : n' ≤ 36) (wt : Nat → List Nat) (hwt : ∀ l, l < n' → ∀ k ∈ wt l, k < n) (hwl : ∀ l, (wt l).length ≤ 6)
    (g10 g4 gW capW : Nat) (P : List (Option Addr × Nat × Nat)) (hP : P.length = n') (base tracks : Int) (A2 : Option Addr) (c2 : Nat) (A3 : Option Addr) (c3 : Nat) (X : List Nat) (hX : ∀ t ∈ X, t < T.length) (hXl : X.length ≤ 256) (l : Nat) (hl : l < n') (A : Option Addr) (c : Nat)
    (hM : Mem b F w0 W (Lx ++ (blk g10 #[.slice (some ⟨gW, 0, none⟩) n' capW] 22 :: blk g4 #[.int .i64 base, .int .i64 tracks, .slice A2 T.length c2, .slice A3 ends.length c3] 25 :: row kS 26 (.slice (some ⟨gW, 0, none⟩) n' capW) P :: two (row kL 26 (.slice A2 T.length c2) (II T)) (row kB 4 (.slice A3 ends.length c3) ends) ::
      rows kI 3 n' (fun j => encS (P.getD j zS)) (fun j => I (wt j))))) (hC : kI.C W A (I X).length (I X)) :
    Calls Try.prog 49 #[.slice A (I X).length c, .int .i64 (l : Int), .pointer (some ⟨g10, 0, none⟩), .pointer (some ⟨g4, 0, none⟩)] W fun e w' => ∃ v', e = .returned v' ∧
      Mem b F w0 w' (row kI 3 v' (I (outS T wt X l)) :: (Lx ++ (blk g10 #[.slice (some ⟨gW, 0, none⟩) n' capW] 22 :: blk g4 #[.int .i64 base, .int .i64 tracks, .slice A2 T.length c2, .slice A3 ends.length c3] 25 :: row kS 26 (.slice (some ⟨gW, 0, none⟩) n' capW) P :: two (row kL 26 (.slice A2 T.length c2) (II T)) (row kB 4 (.slice A3 ends.length c3) ends) ::
        rows kI 3 n' (fun j => encS (P.getD j zS)) (fun j => I (wt j))))) := by
  have HX := Aside0.mk hX
  have HM0 := Aside0.mk hM
  have HC := Aside0.mk hC
  have HWF := Aside0.mk hwf
  have HWT := Aside0.mk hwt
  have HWL := Aside0.mk hwl
  have HP := Aside0.mk hP
  clear hM hX hC hwf hwt hwl hP
  have hTl := Aside0.mk (show T.length ≤ 80 from hN)
  rw [I_len] at HC ⊢
  go_enter Try.func49, Try.ntmps49
  go_wp2
  have HM := (Mem.start W).nil kI 3
  go_loopg [7, 9, 14] X.length (fun gk v7 v9 v14 w' => ∃ i : Nat, v14 = .int .i64 i ∧ Aside0 (gk + i = X.length) ∧ Mem W.heap.size (fun _ => False) W w' [row kI 3 v7 (I (outS T wt (X.take i) l))])
  case atStart => exact ⟨0, rfl, ⟨rfl⟩, HM⟩
  case round =>
    clear HM
    obtain ⟨g1, rfl⟩ : ∃ x : Nat, x = gk := ⟨_, rfl⟩
    obtain ⟨w10, rfl⟩ : ∃ x : World, x = wr := ⟨_, rfl⟩
    obtain ⟨i, rfl, HK, HM⟩ := hrel
    have hil : i ≤ X.length := by have := HK.out; omega
    by_cases hlt : i < X.length
    · obtain ⟨ad1, e1, hcell1⟩ := Kd.at_int (show kI.C w10 A (I X).length (I X) by rw [I_len]; exact Kd.C_below HC.out HM.below) (i : Int) (by omega) (by rw [I_len]; omega)
      subst e1
      rw [Int.toNat_natCast, rd_I] at hcell1
      have hos := outS_succ T wt X l i hlt
      have hol := outS_len (T := T) (HWL.out l) (X.take i)
      rw [List.length_take, Nat.min_eq_left hil] at hol
      obtain ⟨s, hs⟩ : ∃ s, s = X.getD i 0 := ⟨_, rfl⟩
      rw [← hs] at hcell1 hos
      have hsN : s < T.length := HX.out s (by rw [hs, getD_at hlt]; exact List.getElem_mem hlt)
      obtain ⟨out, hout⟩ : ∃ out, out = outS T wt (X.take i) l := ⟨_, rfl⟩
      rw [← hout] at HM hol hos
      obtain ⟨ks, hks⟩ : ∃ ks, ks = wt l := ⟨_, rfl⟩
      have hkn : ∀ k ∈ ks, k < n := by rw [hks]; exact HWT.out l hl
      have hkl : ks.length ≤ 6 := by rw [hks]; exact HWL.out l
      have HL := (HM0.out.grow HM.below).behind
      have hc10 : w10.cell? ⟨g10, 0, none⟩ = some (.slice (some ⟨gW, 0, none⟩) n' capW) := (HL.cell (i := 0) rfl 0).1
      have hcW := (HL.rowCell zS (i := 2) rfl (j := l) (by rw [HP.out]; exact hl)).1
      obtain ⟨Av, cv, ev, hcv, hCv⟩ := HL.rowSlice (i := l + 4) (rows_at (d := kI) (e := 3) (f := fun j => encS (P.getD j zS)) (g := fun j => I (wt j)) hl)
      rw [ev, I_len, ← hks] at hcW
      rw [I_len, ← hks] at hcv
      have HCV := Aside0.mk hCv
      have HEV := Aside0.mk ev
      have HOS := Aside0.mk hos
      have HKN := Aside0.mk hkn
      have HKS := Aside0.mk hks
      rw [← hks] at hos
      clear hCv hos hkn hout hs ev HL hks
      go_wp2
      go_loopg [7, 11, 23] ks.length (fun gk v7 v11 v23 w' => ∃ j : Nat, v23 = .int .i64 j ∧ Aside0 (gk + j = ks.length) ∧ Mem W.heap.size (fun _ => False) W w' [row kI 3 v7 (I (out ++ (ks.take j).map (nx T s)))])
      case atStart => exact ⟨0, rfl, ⟨rfl⟩, by simpa using HM⟩
      case round =>
        clear HM hc10 hcW hcell1
        obtain ⟨g2, rfl⟩ : ∃ x : Nat, x = gk := ⟨_, rfl⟩
        obtain ⟨w20, rfl⟩ : ∃ x : World, x = wr := ⟨_, rfl⟩
        obtain ⟨j, rfl, HKj, HM⟩ := hrel
        have hjl : j ≤ ks.length := by have := HKj.out; omega
        by_cases hj : j < ks.length
        · have HL := (HM0.out.grow HM.below).behind
          have hcv := HCV.out
          rw [I_len, ← HKS.out] at hcv
          have hCv2 := ((HL.rowSlice (i := l + 4) (rows_at (d := kI) (e := 3) (f := fun j => encS (P.getD j zS)) (g := fun j => I (wt j)) hl)))
          obtain ⟨Av', cv', ev', _, hCv'⟩ := hCv2
          have eAv : Av' = Av := by
            rw [HEV.out] at ev'
            injection ev' with e1 e2 e3
            exact e1.symm
          subst eAv
          obtain ⟨ad2, e2, hcell2⟩ := Kd.at_int (show kI.C w20 Av' (I ks).length (I ks) by rw [HKS.out]; exact hCv') (j : Int) (by omega) (by rw [I_len]; omega)
          subst e2
          rw [Int.toNat_natCast, rd_I] at hcell2
          obtain ⟨k, hk⟩ : ∃ k, k = ks.getD j 0 := ⟨_, rfl⟩
          rw [← hk] at hcell2
          have hkn : k < n := HKN.out k (by rw [hk, getD_at hj]; exact List.getElem_mem hj)
          have hm2 : w20.cell? ⟨g4, 2, none⟩ = some (.slice A2 T.length c2) := (HL.cell (i := 1) rfl 2).1
          have hT2 := (Kd.R_reads' (HL.two_ (i := 3) rfl).1).2.2
          obtain ⟨ad3, A5, c5, e3, hcell3, _, hC5⟩ := row_at hT2 (i := s) hsN
          subst e3
          have hrl : (T.getD s []).length = n := HWF.out.row_len hsN
          obtain ⟨r, hr⟩ : ∃ r, r = T.getD s [] := ⟨_, rfl⟩
          rw [← hr] at hcell3 hC5 hrl
          rw [I_len, hrl] at hcell3
          obtain ⟨ad5, e5, hcell5⟩ := Kd.at_int hC5 (k : Int) (by omega) (by rw [I_len, hrl]; omega)
          subst e5
          rw [Int.toNat_natCast, rd_I] at hcell5
          obtain ⟨t, ht⟩ : ∃ t, t = r.getD k 0 := ⟨_, rfl⟩
          rw [← ht] at hcell5
          have htx : t = nx T s k := by rw [ht, hr]; rfl
          have hst : (ks.take (j + 1)).map (nx T s) = (ks.take j).map (nx T s) ++ [t] := by
            rw [take_snoc' hj, List.map_append, htx, hk, getD_at hj]
            rfl
          obtain ⟨xs, hxs⟩ : ∃ xs, xs = out ++ (ks.take j).map (nx T s) := ⟨_, rfl⟩
          have hxl : xs.length ≤ 2000 := by
            rw [hxs, List.length_append, List.length_map, List.length_take]
            omega
          have hx1 : out ++ (ks.take (j + 1)).map (nx T s) = xs ++ [t] := by rw [hst, hxs, List.append_assoc]
          rw [← hxs] at HM
          have HX1 := Aside0.mk hx1
          clear hx1 hst hxs ht htx hr hk hC5 hT2 hCv' hcv HL ev' hrl
          go_wp2_with (((with_reducible refine gate_dst (N := 37) rfl ?_); (refine HM.append1 0 rfl (.tmp 27) (.tmp 36) 26 3 (.int .i64 0) 8 rfl Try.underlying26 infoI rfl (by decide) _ (I xs) (t : Int) rfl rfl rfl (by rw [I_len]; omega) ?_; intro v37 w21 HM1; clear HM; rw [← I_snoc, ← HX1.out] at HM1)))
          go_roundg (g2 - 1)
          case measure => have := HKj.out; omega
          case rel => exact ⟨j + 1, by go_num, ⟨by have := HKj.out; omega⟩, HM1⟩
        · obtain rfl : j = ks.length := by omega
          rw [List.take_length] at HM
          have hos := HOS.out
          rw [← HKS.out] at hos
          rw [← hos] at HM
          clear hos
          go_wp2
          go_roundg (g1 - 1)
          case measure => have := HK.out; omega
          case rel => exact ⟨i + 1, by go_num, ⟨by have := HK.out; omega⟩, HM⟩
    · obtain rfl : i = X.length := by omega
      rw [List.take_length] at HM
      go_wp2
      refine bodyPost_ret (results_single rfl (.tmp .nil)) (by rfl) ⟨_, rfl, HM0.out.row_ HM.below (HM.rowAt (i := 0) rfl)⟩
end Go.Proofs.Ytlffephcbfdknaa.Wk
