/- What Some answers, as the laws use it; the automaton 'same'; the plain law of SomeTakes. -/
import Derived.Test.YtlffephcbfdknaaK6
import Derived.Test.YtlffephcbfdknaaK2
set_option linter.unusedVariables false
set_option linter.unusedSimpArgs false
namespace Go.Proofs.Ytlffephcbfdknaa.Wk
open Go.RowKit Go.Proofs.YtlffephcbfdknaaW.PrintWords Go.Proofs.YtlffephcbfdknaaW.PrintMore Go.Proofs.YtlffephcbfdknaaW.PrintLast Go.Proofs.Sep Go.Proofs.Fil Go.Proofs.Ytlffephcbfdknaa.Chk Go.Proofs.Ytlffephcbfdknaa.PSomeTakes Go.Proofs.Ytlffephcbfdknaa.Tbl

def S0 : Tab := [[0, 1, 1, 0], [1, 1, 1, 1]]
def s0 : List Bool := [true, false]
set_option maxRecDepth 100000 in
set_option maxHeartbeats 4000000 in
theorem same_calls (W : World) : Calls Try.prog 13 #[] W fun e w' => ∃ v2 v3 : Value, e = .returned (.agg #[.int .i64 2, .int .i64 2, v2, v3]) ∧ kL.R 26 w' W.heap.size (fun _ => True) v2 (II S0) ∧ kB.R 4 w' W.heap.size (fun _ => True) v3 s0 ∧ Below W.heap.size W w' := by
  have HM := Mem.start W
  go_enter Try.func13, Try.ntmps13
  go_wp2_with (first
    | ((with_reducible refine gate_dst (N := 0) rfl ?_); refine box_event ?hg (N := 0) ?hd (cs := #[.int .i64 0, .int .i64 0, .slice none 0 0, .slice none 0 0]) (t := 25) ?hr ?_; (case hd => rfl); (case hg => rfl); (case hr => first | (go_simp; done) | (go_simp; rfl)); intro g0 hg w0' hb hbel; have HM1 := HM.blk_ hg hb hbel; clear HM hg hb hbel)
    | ((with_reducible refine gate_dst (N := 1) rfl ?_); (refine HM1.lit (enc := Value.int .i64) (h1 := fun _ => rfl) 3 rfl (N := 1) rfl [0, 1, 1, 0] ?hr (by decide) ?_; (case hr => first | (go_simp; done) | (go_simp; rfl)); intro v1 w1 HM2; clear HM1))
    | ((with_reducible refine gate_dst (N := 2) rfl ?_); (refine HM2.lit (enc := Value.int .i64) (h1 := fun _ => rfl) 3 rfl (N := 2) rfl [1, 1, 1, 1] ?hr (by decide) ?_; (case hr => first | (go_simp; done) | (go_simp; rfl)); intro v2 w2 HM3; clear HM2; obtain ⟨A20, c20, e20, _, _⟩ := HM3.rowSlice (i := 0) rfl; subst e20; obtain ⟨A19, c19, e19, _, _⟩ := HM3.rowSlice (i := 1) rfl; subst e19))
    | ((with_reducible refine gate_dst (N := 3) rfl ?_); (refine HM3.litRows2 26 rfl (N := 3) rfl ?hr ?_; (case hr => first | (go_simp; done) | (go_simp; rfl)); intro v3 w3 HM4; clear HM3; obtain ⟨A21, c21, e21, hc21, _⟩ := HM4.rowSlice (i := 0) rfl; subst e21))
    | ((with_reducible refine gate_dst (N := 4) rfl ?_); (refine HM4.lit (enc := Value.bool) (h1 := fun _ => rfl) 4 rfl (N := 4) rfl [true, false] ?hr (by decide) ?_; (case hr => first | (go_simp; done) | (go_simp; rfl)); intro v4 w4 HM5; clear HM4; obtain ⟨A22, c22, e22, hc22, _⟩ := HM5.rowSlice (i := 0) rfl; subst e22))
    | ((with_reducible refine gate_store (t := 25) (p := 0) rfl ?_); (refine HM5.storeAll 2 rfl rfl 25 (.tmp 0) _ rfl (us := #[.int .i64 2, .int .i64 2, .slice A21 2 c21, .slice A22 2 c22]) rfl rfl (one4 rfl rfl rfl rfl) (by exact infoA4) rfl rfl ?_; intro w6 HM6; clear HM5)))
  refine bodyPost_ret (results_single rfl (.cell g0 25 _ (0, 0) _ rfl (HM6.blkAt (i := 2) rfl).1 Try.underlying25 rfl infoA4 .nil)) (by rfl) ?_
  exact ⟨_, _, rfl, HM6.rowAt (i := 1) rfl, HM6.rowAt (i := 0) rfl, HM6.below⟩

/-- Some answers with an automaton. -/
def SomesTo (base tracks : Int) (l2 : List (List Int)) (l3 : List Bool) (track : Int) (n : Nat) (T : Tab) (out : Tab × List Bool) (tr : Nat) (m : Tab × List Bool) : Prop :=
  Ok base tracks l2 l3 n T ∧ Go.Proofs.Fil.Can n (lof n (T, l3) 0) out ∧ track = ((tr : Nat) : Int) ∧ track < tracks ∧ (sO base tracks tr out.1).length ≤ 2000 ∧ Go.Proofs.Fil.Can (sN base tracks) (lof (sN base tracks) (sA base tracks tr out.1 out.2) 0) m ∧ m.1.length ≤ 80
theorem SomePost.yes {base tracks : Int} {l2 : List (List Int)} {l3 : List Bool} {track : Int} {B : Nat} {e : Ending} {w' : World} (h : SomePost base tracks l2 l3 track B e w') {n : Nat} {T : Tab} {out m : Tab × List Bool} {tr : Nat} (ht : SomesTo base tracks l2 l3 track n T out tr m) :
    ∃ v2 v3, e = .returned (.tuple #[.agg #[.int .i64 base, .int .i64 (tracks - 1), v2, v3], .nilIface]) ∧ kL.R 26 w' B (fun _ => True) v2 (II m.1) ∧ kB.R 4 w' B (fun _ => True) v3 m.2 := by
  obtain ⟨h1, h2, h3, h4, h5, h6, h7⟩ := ht
  rcases h with ⟨n', T', out', tr', m', h1', h2', h3', h4', h5', h6', h7', v2, v3, he, hr2, hr3⟩ | ⟨x, hx, he, hno | ⟨_, hno, _⟩ | ⟨_, n', T', out', tr', h1', h2', h3', h4', hbig⟩⟩
  · obtain rfl : tr = tr' := by omega
    obtain ⟨rfl, rfl, rfl⟩ := can_uniq h1 h2 h1' h2'
    obtain rfl := h6.unique h6'
    exact ⟨v2, v3, he, hr2, hr3⟩
  · exact absurd ⟨n, T, h1⟩ hno
  · omega
  · obtain rfl : tr = tr' := by omega
    obtain ⟨rfl, rfl, rfl⟩ := can_uniq h1 h2 h1' h2'
    rcases hbig with hbig | ⟨_, m', hm', hbig⟩
    · exact absurd hbig (by omega)
    · rw [hm'.unique h6] at hbig
      exact absurd hbig (by omega)
theorem SomePost.no {base tracks : Int} {l2 : List (List Int)} {l3 : List Bool} {track : Int} {B : Nat} {e : Ending} {w' : World} (h : SomePost base tracks l2 l3 track B e w') (hno : ¬ ∃ n T out tr m, SomesTo base tracks l2 l3 track n T out tr m) :
    ∃ x, e = .returned (.tuple #[.agg #[.int .i64 0, .int .i64 0, .slice none 0 0, .slice none 0 0], errW (some x)]) := by
  rcases h with ⟨n', T', out', tr', m', h1', h2', h3', h4', h5', h6', h7', _⟩ | ⟨x, hx, he, _⟩
  · exact absurd ⟨n', T', out', tr', m', h1', h2', h3', h4', h5', h6', h7'⟩ hno
  · exact ⟨x, he⟩
theorem SomesTo.ok {base tracks : Int} {l2 : List (List Int)} {l3 : List Bool} {track : Int} {n : Nat} {T : Tab} {out m : Tab × List Bool} {tr : Nat} (h : SomesTo base tracks l2 l3 track n T out tr m) : Ok base (tracks - 1) (II m.1) m.2 (sN base tracks) m.1 := by
  obtain ⟨h1, h2, h3, h4, h5, h6, h7⟩ := h
  exact ⟨many_less h1.many (by omega), rfl, h6.wf, h7⟩
/-- Its language, of the automaton that was handed in. -/
theorem SomesTo.lang {base tracks : Int} {l2 : List (List Int)} {l3 : List Bool} {track : Int} {n : Nat} {T : Tab} {out m : Tab × List Bool} {tr : Nat} (h : SomesTo base tracks l2 l3 track n T out tr m) :
    lof (sN base tracks) m 0 = someL (sN base tracks) (sW base tracks tr) (sW base tracks tr 0) (lof n (T, l3) 0) := by
  obtain ⟨h1, h2, h3, h4, h5, h6, h7⟩ := h
  have hpos : 0 < sN base tracks := Nat.pow_pos (many_range h1.many).2.2.2.2.2
  have hw : ∀ l, l < sN base tracks → ∀ k ∈ sW base tracks tr l, k < n := wtab_lt h1.many (by omega)
  have h80 : out.1.length ≤ 80 := Nat.le_trans (can_le h1.wf h2) h1.small
  have e1 : lof (sN base tracks) (m.1, m.2) 0 = lof (sN base tracks) (sA base tracks tr out.1 out.2) 0 := h6.lof (lang_proper _ _ _ _)
  have e2 : lof n (out.1, out.2) 0 = lof n (T, l3) 0 := h2.lof (lang_proper _ _ _ _)
  show lof (sN base tracks) (m.1, m.2) 0 = _
  rw [e1, ← e2]
  exact someA_lof h2.wf (by omega) hw (hw 0 hpos) h5
/-- The states at which one may be, letter by letter. -/
def hereS (base tracks : Int) (tr : Nat) (T : Tab) (w : List Nat) : List Nat := w.foldl (stepS T (sW base tracks tr)) (firstS T (sW base tracks tr 0))
theorem SomesTo.takes {base tracks : Int} {l2 : List (List Int)} {l3 : List Bool} {track : Int} {n : Nat} {T : Tab} {out m : Tab × List Bool} {tr : Nat} (h : SomesTo base tracks l2 l3 track n T out tr m) {w : List Nat} (hw : ∀ l ∈ w, l < sN base tracks) :
    lof (sN base tracks) m 0 w = eSet l3 (hereS base tracks tr T w) := by
  rw [h.lang]
  obtain ⟨h1, h2, h3, h4, h5, h6, h7⟩ := h
  have hpos : 0 < sN base tracks := Nat.pow_pos (many_range h1.many).2.2.2.2.2
  have hwt : ∀ l, l < sN base tracks → ∀ k ∈ sW base tracks tr l, k < n := wtab_lt h1.many (by omega)
  have h80 := h1.small
  rw [← lang_first h1.wf (by omega) hwt (hwt 0 hpos), lang_run]
  have hall : w.all (fun l => decide (l < sN base tracks)) = true := List.all_eq_true.2 (fun l hl => decide_eq_true (hw l hl))
  rw [hall, Bool.true_and]
  rfl
theorem wfS0 : WF 4 S0 s0 := ⟨by decide, by decide, by decide, by decide⟩
theorem canS0 : Go.Proofs.Fil.Can 4 (lof 4 (S0, s0) 0) (S0, s0) := by
  have h := outOf_can wfS0 (j := 1) (by decide)
  rwa [show outOf S0 s0 (clsAt S0 s0 (ordOf S0) (1 + 1)) (ordOf S0) = (S0, s0) by decide] at h
theorem okS0 : Ok 2 2 (II S0) s0 4 S0 := ⟨by decide +kernel, rfl, wfS0, by decide⟩
theorem sOS0 : sO 2 2 0 S0 = [[0, 1]] := by
  unfold sO someO
  rw [bfsI_stop (succs (sN 2 2) (stepS S0 (sW 2 2 0))) (firstS S0 (sW 2 2 0 0)) (i := 1) (by decide +kernel) (by decide)]
  decide +kernel
theorem sAS0 : sA 2 2 0 S0 s0 = ([[0, 0]], [true]) := by
  have h1 : (sA 2 2 0 S0 s0).1 = [[0, 0]] := by rw [sA_fst, sOS0]; decide +kernel
  have h2 : (sA 2 2 0 S0 s0).2 = [true] := by rw [sA_snd, sOS0]; decide +kernel
  rw [← h1, ← h2]
theorem wfS1 : WF 2 [[0, 0]] [true] := ⟨by decide, by decide, by decide, by decide⟩
theorem canS1 : Go.Proofs.Fil.Can 2 (lof 2 ([[0, 0]], [true]) 0) ([[0, 0]], [true]) := by
  have h := outOf_can wfS1 (j := 1) (by decide)
  rwa [show outOf [[0, 0]] [true] (clsAt [[0, 0]] [true] (ordOf [[0, 0]]) (1 + 1)) (ordOf [[0, 0]]) = ([[0, 0]], [true]) by decide] at h
theorem somes0 : SomesTo 2 2 (II S0) s0 0 4 S0 (S0, s0) 0 ([[0, 0]], [true]) :=
  ⟨okS0, canS0, rfl, by decide, by rw [sOS0]; decide, by rw [sAS0]; exact canS1, by decide⟩
end Go.Proofs.Ytlffephcbfdknaa.Wk
