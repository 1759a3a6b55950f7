/- Several texts in one: What Some answers, as the laws use it; the automaton 'same'; the plain law of SomeTakes. -/
import Derived.Test.YtlffephcbfdknaaK6
import Derived.Test.YtlffephcbfdknaaK2
/- What Some answers, as the laws use it; the automaton 'same'; the plain law of SomeTakes. -/
set_option linter.unusedVariables false
set_option linter.unusedSimpArgs false
namespace Go.Proofs.Ytlffephcbfdknaa.Wk
open Go.RowKit Go.Proofs.YtlffephcbfdknaaW.PrintWords Go.Proofs.YtlffephcbfdknaaW.PrintMore Go.Proofs.YtlffephcbfdknaaW.PrintLast Go.Proofs.Sep Go.Proofs.Fil Go.Proofs.Ytlffephcbfdknaa.Chk Go.Proofs.Ytlffephcbfdknaa.PSomeTakes Go.Proofs.Ytlffephcbfdknaa.Tbl

def S0 : Tab := [[0, 1, 1, 0], [1, 1, 1, 1]]
def s0 : List Bool := [true, false]
set_option maxRecDepth 100000 in
set_option maxHeartbeats 4000000 in
theorem same_calls (W : World) : Calls Try.prog 13 #[] W fun e w' => ∃ v2 v3 : Value, e = .returned (.agg #[.int .i64 2, .int .i64 2, v2, v3]) ∧ kL.R 26 w' W.heap.size (fun _ => True) v2 (II S0) ∧ kB.R 4 w' W.heap.size (fun _ => True) v3 s0 ∧ Below W.heap.size W w' := by
  have HM := Mem.start W
  go_enter Try.func13, Try.ntmps13
  go_wp2_with (first
    | ((with_reducible refine gate_dst (N := 0) rfl ?_); refine box_event ?hg (N := 0) ?hd (cs := #[.int .i64 0, .int .i64 0, .slice none 0 0, .slice none 0 0]) (t := 25) ?hr ?_; (case hd => rfl); (case hg => rfl); (case hr => first | (go_simp; done) | (go_simp; rfl)); intro g0 hg w0' hb hbel; have HM1 := HM.blk_ hg hb hbel; clear HM hg hb hbel)
    | ((with_reducible refine gate_dst (N := 1) rfl ?_); (refine HM1.lit (enc := Value.int .i64) (h1 := fun _ => rfl) 3 rfl (N := 1) rfl [0, 1, 1, 0] ?hr (by decide) ?_; (case hr => first | (go_simp; done) | (go_simp; rfl)); intro v1 w1 HM2; clear HM1))
    | ((with_reducible refine gate_dst (N := 2) rfl ?_); (refine HM2.lit (enc := Value.int .i64) (h1 := fun _ => rfl) 3 rfl (N := 2) rfl [1, 1, 1, 1] ?hr (by decide) ?_; (case hr => first | (go_simp; done) | (go_simp; rfl)); intro v2 w2 HM3; clear HM2; obtain ⟨A20, c20, e20, _, _⟩ := HM3.rowSlice (i := 0) rfl; subst e20; obtain ⟨A19, c19, e19, _, _⟩ := HM3.rowSlice (i := 1) rfl; subst e19))
    | ((with_reducible refine gate_dst (N := 3) rfl ?_); (refine HM3.litRows2 26 rfl (N := 3) rfl ?hr ?_; (case hr => first | (go_simp; done) | (go_simp; rfl)); intro v3 w3 HM4; clear HM3; obtain ⟨A21, c21, e21, hc21, _⟩ := HM4.rowSlice (i := 0) rfl; subst e21))
    | ((with_reducible refine gate_dst (N := 4) rfl ?_); (refine HM4.lit (enc := Value.bool) (h1 := fun _ => rfl) 4 rfl (N := 4) rfl [true, false] ?hr (by decide) ?_; (case hr => first | (go_simp; done) | (go_simp; rfl)); intro v4 w4 HM5; clear HM4; obtain ⟨A22, c22, e22, hc22, _⟩ := HM5.rowSlice (i := 0) rfl; subst e22))
    | ((with_reducible refine gate_store (t := 25) (p := 0) rfl ?_); (refine HM5.storeAll 2 rfl rfl 25 (.tmp 0) _ rfl (us := #[.int .i64 2, .int .i64 2, .slice A21 2 c21, .slice A22 2 c22]) rfl rfl (one4 rfl rfl rfl rfl) (by exact infoA4) rfl rfl ?_; intro w6 HM6; clear HM5)))
  refine bodyPost_ret (results_single rfl (.cell g0 25 _ (0, 0) _ rfl (HM6.blkAt (i := 2) rfl).1 Try.underlying25 rfl infoA4 .nil)) (by rfl) ?_
  exact ⟨_, _, rfl, HM6.rowAt (i := 1) rfl, HM6.rowAt (i := 0) rfl, HM6.below⟩

/-- Some answers with an automaton. -/
def SomesTo (base tracks : Int) (l2 : List (List Int)) (l3 : List Bool) (track : Int) (n : Nat) (T : Tab) (out : Tab × List Bool) (tr : Nat) (m : Tab × List Bool) : Prop :=
  Ok base tracks l2 l3 n T ∧ Go.Proofs.Fil.Can n (lof n (T, l3) 0) out ∧ track = ((tr : Nat) : Int) ∧ track < tracks ∧ (sO base tracks tr out.1).length ≤ 2000 ∧ Go.Proofs.Fil.Can (sN base tracks) (lof (sN base tracks) (sA base tracks tr out.1 out.2) 0) m ∧ m.1.length ≤ 80
theorem SomePost.yes {base tracks : Int} {l2 : List (List Int)} {l3 : List Bool} {track : Int} {B : Nat} {e : Ending} {w' : World} (h : SomePost base tracks l2 l3 track B e w') {n : Nat} {T : Tab} {out m : Tab × List Bool} {tr : Nat} (ht : SomesTo base tracks l2 l3 track n T out tr m) :
    ∃ v2 v3, e = .returned (.tuple #[.agg #[.int .i64 base, .int .i64 (tracks - 1), v2, v3], .nilIface]) ∧ kL.R 26 w' B (fun _ => True) v2 (II m.1) ∧ kB.R 4 w' B (fun _ => True) v3 m.2 := by
  obtain ⟨h1, h2, h3, h4, h5, h6, h7⟩ := ht
  rcases h with ⟨n', T', out', tr', m', h1', h2', h3', h4', h5', h6', h7', v2, v3, he, hr2, hr3⟩ | ⟨x, hx, he, hno | ⟨_, hno, _⟩ | ⟨_, n', T', out', tr', h1', h2', h3', h4', hbig⟩⟩
  · obtain rfl : tr = tr' := by omega
    obtain ⟨rfl, rfl, rfl⟩ := can_uniq h1 h2 h1' h2'
    obtain rfl := h6.unique h6'
    exact ⟨v2, v3, he, hr2, hr3⟩
  · exact absurd ⟨n, T, h1⟩ hno
  · omega
  · obtain rfl : tr = tr' := by omega
    obtain ⟨rfl, rfl, rfl⟩ := can_uniq h1 h2 h1' h2'
    rcases hbig with hbig | ⟨_, m', hm', hbig⟩
    · exact absurd hbig (by omega)
    · rw [hm'.unique h6] at hbig
      exact absurd hbig (by omega)
theorem SomePost.no {base tracks : Int} {l2 : List (List Int)} {l3 : List Bool} {track : Int} {B : Nat} {e : Ending} {w' : World} (h : SomePost base tracks l2 l3 track B e w') (hno : ¬ ∃ n T out tr m, SomesTo base tracks l2 l3 track n T out tr m) :
    ∃ x, e = .returned (.tuple #[.agg #[.int .i64 0, .int .i64 0, .slice none 0 0, .slice none 0 0], errW (some x)]) := by
  rcases h with ⟨n', T', out', tr', m', h1', h2', h3', h4', h5', h6', h7', _⟩ | ⟨x, hx, he, _⟩
  · exact absurd ⟨n', T', out', tr', m', h1', h2', h3', h4', h5', h6', h7'⟩ hno
  · exact ⟨x, he⟩
theorem SomesTo.ok {base tracks : Int} {l2 : List (List Int)} {l3 : List Bool} {track : Int} {n : Nat} {T : Tab} {out m : Tab × List Bool} {tr : Nat} (h : SomesTo base tracks l2 l3 track n T out tr m) : Ok base (tracks - 1) (II m.1) m.2 (sN base tracks) m.1 := by
  obtain ⟨h1, h2, h3, h4, h5, h6, h7⟩ := h
  exact ⟨many_less h1.many (by omega), rfl, h6.wf, h7⟩
/-- Its language, of the automaton that was handed in. -/
theorem SomesTo.lang {base tracks : Int} {l2 : List (List Int)} {l3 : List Bool} {track : Int} {n : Nat} {T : Tab} {out m : Tab × List Bool} {tr : Nat} (h : SomesTo base tracks l2 l3 track n T out tr m) :
    lof (sN base tracks) m 0 = someL (sN base tracks) (sW base tracks tr) (sW base tracks tr 0) (lof n (T, l3) 0) := by
  obtain ⟨h1, h2, h3, h4, h5, h6, h7⟩ := h
  have hpos : 0 < sN base tracks := Nat.pow_pos (many_range h1.many).2.2.2.2.2
  have hw : ∀ l, l < sN base tracks → ∀ k ∈ sW base tracks tr l, k < n := wtab_lt h1.many (by omega)
  have h80 : out.1.length ≤ 80 := Nat.le_trans (can_le h1.wf h2) h1.small
  have e1 : lof (sN base tracks) (m.1, m.2) 0 = lof (sN base tracks) (sA base tracks tr out.1 out.2) 0 := h6.lof (lang_proper _ _ _ _)
  have e2 : lof n (out.1, out.2) 0 = lof n (T, l3) 0 := h2.lof (lang_proper _ _ _ _)
  show lof (sN base tracks) (m.1, m.2) 0 = _
  rw [e1, ← e2]
  exact someA_lof h2.wf (by omega) hw (hw 0 hpos) h5
/-- The states at which one may be, letter by letter. -/
def hereS (base tracks : Int) (tr : Nat) (T : Tab) (w : List Nat) : List Nat := w.foldl (stepS T (sW base tracks tr)) (firstS T (sW base tracks tr 0))
theorem SomesTo.takes {base tracks : Int} {l2 : List (List Int)} {l3 : List Bool} {track : Int} {n : Nat} {T : Tab} {out m : Tab × List Bool} {tr : Nat} (h : SomesTo base tracks l2 l3 track n T out tr m) {w : List Nat} (hw : ∀ l ∈ w, l < sN base tracks) :
    lof (sN base tracks) m 0 w = eSet l3 (hereS base tracks tr T w) := by
  rw [h.lang]
  obtain ⟨h1, h2, h3, h4, h5, h6, h7⟩ := h
  have hpos : 0 < sN base tracks := Nat.pow_pos (many_range h1.many).2.2.2.2.2
  have hwt : ∀ l, l < sN base tracks → ∀ k ∈ sW base tracks tr l, k < n := wtab_lt h1.many (by omega)
  have h80 := h1.small
  rw [← lang_first h1.wf (by omega) hwt (hwt 0 hpos), lang_run]
  have hall : w.all (fun l => decide (l < sN base tracks)) = true := List.all_eq_true.2 (fun l hl => decide_eq_true (hw l hl))
  rw [hall, Bool.true_and]
  rfl
theorem wfS0 : WF 4 S0 s0 := ⟨by decide, by decide, by decide, by decide⟩
theorem canS0 : Go.Proofs.Fil.Can 4 (lof 4 (S0, s0) 0) (S0, s0) := by
  have h := outOf_can wfS0 (j := 1) (by decide)
  rwa [show outOf S0 s0 (clsAt S0 s0 (ordOf S0) (1 + 1)) (ordOf S0) = (S0, s0) by decide] at h
theorem okS0 : Ok 2 2 (II S0) s0 4 S0 := ⟨by decide +kernel, rfl, wfS0, by decide⟩
theorem sOS0 : sO 2 2 0 S0 = [[0, 1]] := by
  unfold sO someO
  rw [bfsI_stop (succs (sN 2 2) (stepS S0 (sW 2 2 0))) (firstS S0 (sW 2 2 0 0)) (i := 1) (by decide +kernel) (by decide)]
  decide +kernel
theorem sAS0 : sA 2 2 0 S0 s0 = ([[0, 0]], [true]) := by
  have h1 : (sA 2 2 0 S0 s0).1 = [[0, 0]] := by rw [sA_fst, sOS0]; decide +kernel
  have h2 : (sA 2 2 0 S0 s0).2 = [true] := by rw [sA_snd, sOS0]; decide +kernel
  rw [← h1, ← h2]
theorem wfS1 : WF 2 [[0, 0]] [true] := ⟨by decide, by decide, by decide, by decide⟩
theorem canS1 : Go.Proofs.Fil.Can 2 (lof 2 ([[0, 0]], [true]) 0) ([[0, 0]], [true]) := by
  have h := outOf_can wfS1 (j := 1) (by decide)
  rwa [show outOf [[0, 0]] [true] (clsAt [[0, 0]] [true] (ordOf [[0, 0]]) (1 + 1)) (ordOf [[0, 0]]) = ([[0, 0]], [true]) by decide] at h
theorem somes0 : SomesTo 2 2 (II S0) s0 0 4 S0 (S0, s0) 0 ([[0, 0]], [true]) :=
  ⟨okS0, canS0, rfl, by decide, by rw [sOS0]; decide, by rw [sAS0]; exact canS1, by decide⟩
end Go.Proofs.Ytlffephcbfdknaa.Wk

/- The plain law of SomeTakes' loops: what is met within k letters; one letter, state by state. Plain. -/
set_option linter.unusedVariables false
set_option linter.unusedSimpArgs false
namespace Go.Proofs.Ytlffephcbfdknaa.Wk
open Go.Proofs.Fil
theorem runs_lt {n : Nat} {T : Tab} {ends : List Bool} (h : WF n T ends) : ∀ (w : List Nat) {s : Nat}, (∀ l ∈ w, l < n) → s < T.length → w.foldl (nx T) s < T.length := by
  intro w
  induction w with
  | nil => intro s _ hs; exact hs
  | cons l w ih => intro s hw hs; exact ih (fun l' hl' => hw l' (List.mem_cons_of_mem _ hl')) (h.nx_lt hs (hw l (by simp)))
/-- met within k letters of ze -/
def Rch (T : Tab) (ze : List Nat) (k x : Nat) : Prop := ∃ z : List Nat, z.length ≤ k ∧ (∀ q ∈ z, q ∈ ze) ∧ z.foldl (nx T) 0 = x
theorem Rch.zero (T : Tab) (ze : List Nat) (k : Nat) : Rch T ze k 0 := ⟨[], Nat.zero_le _, by simp, rfl⟩
theorem Rch.at0 {T : Tab} {ze : List Nat} {x : Nat} (h : Rch T ze 0 x) : x = 0 := by
  obtain ⟨z, hz, _, rfl⟩ := h
  obtain rfl : z = [] := List.eq_nil_of_length_eq_zero (by omega)
  rfl
theorem Rch.succ {T : Tab} {ze : List Nat} {k x : Nat} (h : Rch T ze (k + 1) x) : Rch T ze k x ∨ ∃ s q, Rch T ze k s ∧ q ∈ ze ∧ nx T s q = x := by
  obtain ⟨z, hz, hq, rfl⟩ := h
  induction z using snocInd with
  | nil => exact .inl ⟨[], Nat.zero_le _, by simp, rfl⟩
  | snoc z q _ =>
    refine .inr ⟨z.foldl (nx T) 0, q, ⟨z, by simp at hz; omega, fun q' hq' => hq q' (List.mem_append_left _ hq'), rfl⟩, hq q (by simp), by rw [List.foldl_append]; rfl⟩
theorem bfs_depth {α : Type} [DecidableEq α] (f : α → List α) (a : α) (D : α → Nat → Prop) (h0 : D a 0) (hs : ∀ x k, D x k → ∀ y ∈ f x, D y (k + 1)) (hm : ∀ x k k', k ≤ k' → D x k → D x k') : ∀ i j x, (bfsI f a i)[j]? = some x → D x j := by
  intro i
  induction i with
  | zero =>
    intro j x hx
    cases j with
    | zero => simp [bfsI] at hx; subst hx; exact h0
    | succ j => simp [bfsI] at hx
  | succ i ih =>
    intro j x hx
    cases h : (bfsI f a i)[i]? with
    | none => rw [bfsI_succ_none f a h] at hx; exact ih j x hx
    | some y =>
      have hil := (List.getElem?_eq_some_iff.1 h).1
      rw [bfsI_succ_some f a h] at hx
      rcases Nat.lt_or_ge j (bfsI f a i).length with hj | hj
      · have h2 := prefix_getElem? (addAll_prefix (o := bfsI f a i) (xs := f y)) (List.getElem?_eq_getElem hj)
        rw [h2] at hx
        injection hx with hx
        subst hx
        exact ih j _ (List.getElem?_eq_getElem hj)
      · have hy := ih i y h
        have hmem := mem_addAll.1 (List.mem_of_getElem? hx)
        rcases hmem with h3 | h3
        · obtain ⟨j', hj', rfl⟩ := List.mem_iff_getElem.1 h3
          exact hm _ j' j (by omega) (ih j' _ (List.getElem?_eq_getElem hj'))
        · exact hm _ (i + 1) j (by omega) (hs y i hy x h3)
section
variable {n : Nat} {T : Tab} {ends : List Bool} (h : WF n T ends) {ze : List Nat} (hz : ∀ k ∈ ze, k < n)
include h hz
theorem Rch.lt {k x : Nat} (hr : Rch T ze k x) : x < T.length := by
  obtain ⟨z, _, hq, rfl⟩ := hr
  exact runs_lt h z (fun l hl => hz l (hq l hl)) h.pos
theorem clo_rch {x : Nat} : x ∈ clo T ze ↔ Rch T ze T.length x := by
  constructor
  · intro hx
    obtain ⟨j, hj, rfl⟩ := List.mem_iff_getElem.1 hx
    have h1 := clo_final h hz
    have h2 := bfs_depth (fun s => ze.map (nx T s)) 0 (fun x k => Rch T ze k x) (Rch.zero T ze 0) (fun x k hx y hy => by
      obtain ⟨q, hq, rfl⟩ := List.mem_map.1 hy
      obtain ⟨z, hzl, hzz, rfl⟩ := hx
      refine ⟨z ++ [q], by simp; omega, fun q' hq' => ?_, by rw [List.foldl_append]; rfl⟩
      rcases List.mem_append.1 hq' with h3 | h3
      · exact hzz q' h3
      · rw [List.mem_singleton.1 h3]; exact hq) (fun x k k' hk ⟨z, h1, h2, h3⟩ => ⟨z, by omega, h2, h3⟩) T.length j _ (List.getElem?_eq_getElem hj)
    obtain ⟨z, h3, h4, h5⟩ := h2
    exact ⟨z, by omega, h4, h5⟩
  · rintro ⟨z, _, hq, rfl⟩
    exact (mem_clo h hz).2 ⟨z, hq, rfl⟩
end
/-- what holds when k rounds are done -/
def Clos (T : Tab) (ze : List Nat) (k : Nat) (o : List Nat) : Prop := (∀ x, Rch T ze k x → x ∈ o) ∧ ∀ x ∈ o, x ∈ clo T ze
/-- .. and s states of the next round -/
def ClosS (T : Tab) (ze : List Nat) (k s : Nat) (o : List Nat) : Prop := Clos T ze k o ∧ ∀ s', s' < s → Rch T ze k s' → ∀ q ∈ ze, nx T s' q ∈ o
/-- .. and i letters of that state -/
def ClosI (T : Tab) (ze : List Nat) (k s i : Nat) (o : List Nat) : Prop := ClosS T ze k s o ∧ (Rch T ze k s → ∀ q ∈ ze.take i, nx T s q ∈ o)
theorem closI_zero {T : Tab} {ze : List Nat} {k s : Nat} {o : List Nat} (h : ClosS T ze k s o) : ClosI T ze k s 0 o := ⟨h, fun _ q hq => by simp at hq⟩
theorem closS_zero {T : Tab} {ze : List Nat} {k : Nat} {o : List Nat} (h : Clos T ze k o) : ClosS T ze k 0 o := ⟨h, fun s' hs' => by omega⟩
theorem closI_done {T : Tab} {ze : List Nat} {k s i : Nat} {o : List Nat} (h : ClosI T ze k s i o) (hd : i = ze.length ∨ s ∉ o) : ClosS T ze k (s + 1) o := by
  refine ⟨h.1.1, fun s' hs' hr q hq => ?_⟩
  by_cases e : s' < s
  · exact h.1.2 s' e hr q hq
  · obtain rfl : s' = s := by omega
    rcases hd with rfl | hd
    · exact h.2 hr q (by rw [List.take_length]; exact hq)
    · exact absurd (h.1.1.1 s' hr) hd
theorem closI_step {T : Tab} {ze : List Nat} {k s i : Nat} {o : List Nat} {n : Nat} {ends : List Bool} (hwf : WF n T ends) (hz : ∀ k ∈ ze, k < n) (h : ClosI T ze k s i o) (hi : i < ze.length) (hs : s ∈ o) : ClosI T ze k s (i + 1) (o ++ [nx T s (ze.getD i 0)]) := by
  have hin : ze.getD i 0 ∈ ze := by rw [getD_at hi]; exact List.getElem_mem hi
  refine ⟨⟨⟨fun x hx => List.mem_append_left _ (h.1.1.1 x hx), fun x hx => ?_⟩, fun s' hs' hr q hq => List.mem_append_left _ (h.1.2 s' hs' hr q hq)⟩, fun hr q hq => ?_⟩
  · rcases List.mem_append.1 hx with h1 | h1
    · exact h.1.1.2 x h1
    · rw [List.mem_singleton.1 h1]
      exact bfsI_final_closed _ _ (clo_final hwf hz) (h.1.1.2 s hs) _ (List.mem_map.2 ⟨_, hin, rfl⟩)
  · rw [take_snoc' hi] at hq
    rcases List.mem_append.1 hq with h1 | h1
    · exact List.mem_append_left _ (h.2 hr q h1)
    · rw [List.mem_singleton.1 h1, ← getD_at hi 0]
      simp
theorem clos_next {T : Tab} {ze : List Nat} {k : Nat} {o : List Nat} {n : Nat} {ends : List Bool} (hwf : WF n T ends) (hz : ∀ k ∈ ze, k < n) (h : ClosS T ze k T.length o) : Clos T ze (k + 1) o := by
  refine ⟨fun x hx => ?_, h.1.2⟩
  rcases hx.succ with h1 | ⟨s, q, h1, h2, rfl⟩
  · exact h.1.1 x h1
  · exact h.2 s (h1.lt hwf hz) h1 q h2
theorem clos_start {T : Tab} {ze : List Nat} : Clos T ze 0 [0] := ⟨fun x hx => by rw [hx.at0]; simp, fun x hx => by rw [List.mem_singleton.1 hx]; exact bfsI_mem _ _ _⟩
theorem clos_end {T : Tab} {ze : List Nat} {o : List Nat} {n : Nat} {ends : List Bool} (hwf : WF n T ends) (hN : T.length ≤ 256) (hz : ∀ k ∈ ze, k < n) (h : Clos T ze T.length o) : ∀ x, x ∈ o ↔ x ∈ firstS T ze := fun x => by
  rw [mem_firstS hwf hN hz]
  exact ⟨fun hx => h.2 x hx, fun hx => h.1 x ((clo_rch hwf hz).1 hx)⟩
/-- one letter: s states are done, and k letters of the next one -/
def StepK (T : Tab) (wl : List Nat) (o : List Nat) (s k : Nat) (o2 : List Nat) : Prop :=
  (∀ x ∈ o2, ∃ s' ∈ o, ∃ q ∈ wl, nx T s' q = x) ∧ (∀ s', s' < s → s' ∈ o → ∀ q ∈ wl, nx T s' q ∈ o2) ∧ (s ∈ o → ∀ q ∈ wl.take k, nx T s q ∈ o2)
theorem stepK_start {T : Tab} {wl o : List Nat} : StepK T wl o 0 0 [] := ⟨by simp, fun s' h => by omega, fun _ q hq => by simp at hq⟩
theorem stepK_done {T : Tab} {wl o o2 : List Nat} {s k : Nat} (h : StepK T wl o s k o2) (hd : k = wl.length ∨ s ∉ o) : StepK T wl o (s + 1) 0 o2 := by
  refine ⟨h.1, fun s' hs' ho q hq => ?_, fun _ q hq => by simp at hq⟩
  by_cases e : s' < s
  · exact h.2.1 s' e ho q hq
  · obtain rfl : s' = s := by omega
    rcases hd with rfl | hd
    · exact h.2.2 ho q (by rw [List.take_length]; exact hq)
    · exact absurd ho hd
theorem stepK_step {T : Tab} {wl o o2 : List Nat} {s k : Nat} (h : StepK T wl o s k o2) (hk : k < wl.length) (hs : s ∈ o) : StepK T wl o s (k + 1) (o2 ++ [nx T s (wl.getD k 0)]) := by
  refine ⟨fun x hx => ?_, fun s' hs' ho q hq => List.mem_append_left _ (h.2.1 s' hs' ho q hq), fun ho q hq => ?_⟩
  · rcases List.mem_append.1 hx with h1 | h1
    · exact h.1 x h1
    · exact ⟨s, hs, wl.getD k 0, by rw [getD_at hk]; exact List.getElem_mem hk, (List.mem_singleton.1 h1).symm⟩
  · rw [take_snoc' hk] at hq
    rcases List.mem_append.1 hq with h1 | h1
    · exact List.mem_append_left _ (h.2.2 ho q h1)
    · rw [List.mem_singleton.1 h1, ← getD_at hk 0]
      simp
theorem stepK_end {n n' : Nat} {T : Tab} {ends : List Bool} (hwf : WF n T ends) (hN : T.length ≤ 256) {wt : Nat → List Nat} (hw : ∀ l, l < n' → ∀ k ∈ wt l, k < n) {l : Nat} (hl : l < n') {X o o2 : List Nat} (hX : ∀ x ∈ X, x < T.length) (ho : ∀ x, x ∈ o ↔ x ∈ X) (h : StepK T (wt l) o T.length 0 o2) : ∀ x, x ∈ o2 ↔ x ∈ stepS T wt X l := fun x => by
  unfold stepS
  rw [mem_nrm, mem_outS]
  constructor
  · intro hx
    obtain ⟨s, hs, q, hq, rfl⟩ := h.1 x hx
    have h1 := hwf.nx_lt (hX s ((ho s).1 hs)) (hw l hl q hq)
    exact ⟨by omega, s, (ho s).1 hs, q, hq, rfl⟩
  · rintro ⟨_, s, hs, q, hq, rfl⟩
    exact h.2.1 s (hX s hs) ((ho s).2 hs) q hq
/-- is there an end among the first states? -/
def anyTo (ends : List Bool) (o : List Nat) (s : Nat) : Bool := (List.range s).any fun x => decide (x ∈ o) && en ends x
theorem anyTo_succ (ends : List Bool) (o : List Nat) (s : Nat) : anyTo ends o (s + 1) = (anyTo ends o s || (decide (s ∈ o) && en ends s)) := by
  unfold anyTo
  rw [List.range_succ, List.any_append]
  simp
theorem anyTo_end {ends : List Bool} {o X : List Nat} {N : Nat} (hX : ∀ x ∈ X, x < N) (ho : ∀ x, x ∈ o ↔ x ∈ X) : anyTo ends o N = eSet ends X := by
  unfold anyTo eSet
  rw [Bool.eq_iff_iff, List.any_eq_true, List.any_eq_true]
  constructor
  · rintro ⟨x, _, hx⟩
    simp only [Bool.and_eq_true, decide_eq_true_eq] at hx
    exact ⟨x, (ho x).1 hx.1, hx.2⟩
  · rintro ⟨x, hx, he⟩
    exact ⟨x, List.mem_range.2 (hX x hx), by rw [he, decide_eq_true ((ho x).2 hx)]; rfl⟩
theorem hereS_lt {base tracks : Int} {n : Nat} {T : Tab} {ends : List Bool} (hwf : WF n T ends) {tr : Nat} (hm : Chk.manyN base tracks = some n) (ht : ((tr : Nat) : Int) < tracks) : ∀ (w : List Nat), (∀ l ∈ w, l < sN base tracks) → ∀ x ∈ hereS base tracks tr T w, x < T.length := by
  have hpos : 0 < sN base tracks := Nat.pow_pos (Tbl.many_range hm).2.2.2.2.2
  have hwt : ∀ l, l < sN base tracks → ∀ k ∈ sW base tracks tr l, k < n := Tbl.wtab_lt hm ht
  intro w
  induction w using snocInd with
  | nil => intro _ x hx; exact clo_lt hwf (hwt 0 hpos) x (mem_nrm.1 hx).2
  | snoc w l ih =>
    intro hw x hx
    unfold hereS at hx
    rw [List.foldl_append] at hx
    exact stepS_lt hwf hwt (ih (fun l' hl' => hw l' (List.mem_append_left _ hl'))) (hw l (by simp)) x hx
end Go.Proofs.Ytlffephcbfdknaa.Wk
