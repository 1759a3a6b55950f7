/- The plain law of two automata together; least.Alike. -/
import Derived.Test.YtlffephcbfdknaaK4
import Derived.Test.YtlffephcbfdknaaKWk4
import Derived.Test.YtlffephcbfdknaaK1
import Derived.Test.YtlffephcbfdknaaKKy
import Derived.Test.YtlffephcbfdknaaKEv10
import Derived.Test.YtlffephcbfdknaaK2
set_option linter.unusedVariables false
set_option linter.unusedSimpArgs false
namespace Go.Proofs.Ytlffephcbfdknaa.Wk
open Go.RowKit Go.Proofs.YtlffephcbfdknaaW.PrintWords Go.Proofs.YtlffephcbfdknaaW.PrintMore Go.Proofs.YtlffephcbfdknaaW.PrintLast Go.Proofs.Sep Go.Proofs.Fil Go.Proofs.Ytlffephcbfdknaa.Chk Go.Proofs.Ytlffephcbfdknaa.PSomeTakes
def dP (A B : Tab) (p : Nat × Nat) (l : Nat) : Nat × Nat := (nx A p.1 l, nx B p.2 l)
/-- how two are put together: 14 or, 8 and, 4 the second without the first -/
def opB (how : Int) (p q : Bool) : Bool := if how = 14 then p || q else if how = 8 then p && q else decide (how = 4) && (q && !p)
def eP (how : Int) (e f : List Bool) (p : Nat × Nat) : Bool := opB how (en e p.1) (en f p.2)
def bothL (how : Int) (L M : Lang) : Lang := fun w => opB how (L w) (M w)
theorem opB_ff (how : Int) : opB how false false = false := by
  unfold opB
  split
  · rfl
  · split
    · rfl
    · simp
theorem bothL_proper {n : Nat} {how : Int} {L M : Lang} (hL : Proper n L) (hM : Proper n M) : Proper n (bothL how L M) := by
  intro w hw l hl
  unfold bothL at hw
  cases h1 : L w with
  | true => exact hL w h1 l hl
  | false =>
    cases h2 : M w with
    | true => exact hM w h2 l hl
    | false => rw [h1, h2, opB_ff] at hw; cases hw
theorem lang_both (n : Nat) (how : Int) (A B : Tab) (e f : List Bool) : ∀ (w : List Nat) (p : Nat × Nat), lang n (dP A B) (eP how e f) p w = bothL how (lof n (A, e) p.1) (lof n (B, f) p.2) w := by
  intro w
  induction w with
  | nil => intro p; rfl
  | cons l w ih =>
    intro p
    by_cases hl : l < n
    · show lang n _ _ p (l :: w) = opB how (lang n _ _ _ (l :: w)) (lang n _ _ _ (l :: w))
      rw [lang_cons _ _ _ _ hl, lang_cons _ _ _ _ hl, lang_cons _ _ _ _ hl, ih]
      rfl
    · simp [bothL, Go.Proofs.Fil.lof, Go.Proofs.Fil.lang, hl, opB_ff]
def bothO (n : Nat) (A B : Tab) : List (Nat × Nat) := bfsI (succs n (dP A B)) (0, 0) (A.length * B.length)
def bothA (n : Nat) (how : Int) (A : Tab) (e : List Bool) (B : Tab) (f : List Bool) : Tab × List Bool := (rowsTo n (dP A B) (bothO n A B) (bothO n A B).length, (bothO n A B).map (eP how e f))
theorem bothA_eq (n : Nat) (how : Int) (A : Tab) (e : List Bool) (B : Tab) (f : List Bool) : bothA n how A e B f = explored n (dP A B) (eP how e f) (bothO n A B) := by
  unfold bothA
  generalize bothO n A B = O
  rw [rowsTo_all n (dP A B) (eP how e f)]
  rfl
theorem bothA_fst (n : Nat) (how : Int) (A : Tab) (e : List Bool) (B : Tab) (f : List Bool) : (bothA n how A e B f).1 = rowsTo n (dP A B) (bothO n A B) (bothO n A B).length := by simp only [bothA]
theorem bothA_snd (n : Nat) (how : Int) (A : Tab) (e : List Bool) (B : Tab) (f : List Bool) : (bothA n how A e B f).2 = (bothO n A B).map (eP how e f) := by simp only [bothA]
section
variable {n : Nat} {A B : Tab} {e f : List Bool} (hA : WF n A e) (hB : WF n B f)
include hA hB
theorem bothI_lt (i : Nat) : ∀ p ∈ bfsI (succs n (dP A B)) (0, 0) i, p.1 < A.length ∧ p.2 < B.length :=
  bfsI_inv (succs n (dP A B)) (0, 0) (P := fun p => p.1 < A.length ∧ p.2 < B.length) ⟨hA.pos, hB.pos⟩ (fun p hp q hq => by
    obtain ⟨l, hl, rfl⟩ := List.mem_map.1 hq
    exact ⟨hA.nx_lt hp.1 (List.mem_range.1 hl), hB.nx_lt hp.2 (List.mem_range.1 hl)⟩) i
theorem bothI_le (i : Nat) : (bfsI (succs n (dP A B)) (0, 0) i).length ≤ A.length * B.length := by
  have h1 := nodup_length_le (bfsI_nodup (succs n (dP A B)) (0, 0) i) (U := pairsTo B.length A.length) (fun p hp => mem_pairsTo.2 (bothI_lt hA hB i p hp))
  rwa [pairsTo_length] at h1
theorem bothO_final : (bothO n A B).length ≤ A.length * B.length := bothI_le hA hB _
theorem bothA_wf (how : Int) : WF n (bothA n how A e B f).1 (bothA n how A e B f).2 := by
  rw [bothA_eq]
  exact explored_wf n (dP A B) (eP how e f) (0, 0) (N := A.length * B.length) (bothI_le hA hB _)
theorem bothA_lof (how : Int) : lof n (bothA n how A e B f) 0 = bothL how (lof n (A, e) 0) (lof n (B, f) 0) := by
  rw [bothA_eq]
  have h := explored_lof0 n (dP A B) (eP how e f) (0, 0) (N := A.length * B.length) (bothI_le hA hB _)
  rw [show bothO n A B = bfsI (succs n (dP A B)) (0, 0) (A.length * B.length) from rfl, h]
  funext w
  exact lang_both n how A B e f w (0, 0)
theorem bothA_len (how : Int) : (bothA n how A e B f).1.length ≤ A.length * B.length := by
  rw [bothA_eq]
  simp only [explored, List.length_map]
  exact bothO_final hA hB
end
/-- two that go together -/
def AlikeOk (base tracks : Int) (l2 : List (List Int)) (l3 : List Bool) (base' tracks' : Int) (m2 : List (List Int)) (m3 : List Bool) (n : Nat) (T T' : Tab) : Prop := Ok base tracks l2 l3 n T ∧ Ok base' tracks' m2 m3 n T' ∧ base = base' ∧ tracks = tracks'
theorem AlikeOk.uniq {base tracks : Int} {l2 : List (List Int)} {l3 : List Bool} {base' tracks' : Int} {m2 : List (List Int)} {m3 : List Bool} {n n' : Nat} {T T' S S' : Tab} (h : AlikeOk base tracks l2 l3 base' tracks' m2 m3 n T T') (h' : AlikeOk base tracks l2 l3 base' tracks' m2 m3 n' S S') : n = n' ∧ T = S ∧ T' = S' := by
  obtain ⟨rfl, rfl⟩ := Ok.unique h.1 h'.1
  obtain ⟨_, rfl⟩ := Ok.unique h.2.1 h'.2.1
  exact ⟨rfl, rfl, rfl⟩
set_option maxRecDepth 100000 in
set_option maxHeartbeats 4000000 in
theorem alike_calls (base tracks : Int) (A2 : Option Addr) (c2 : Nat) (l2 : List (List Int)) (A3 : Option Addr) (c3 : Nat) (l3 : List Bool) (base' tracks' : Int) (B2 : Option Addr) (d2 : Nat) (m2 : List (List Int)) (B3 : Option Addr) (d3 : Nat) (m3 : List Bool) (W : World) (hC2 : kL.C W A2 l2.length l2) (h2 : l2.length ≤ c2) (hC3 : kB.C W A3 l3.length l3) (h3 : l3.length ≤ c3) (hD2 : kL.C W B2 m2.length m2) (g2 : m2.length ≤ d2) (hD3 : kB.C W B3 m3.length m3) (g3 : m3.length ≤ d3) :
    Calls Try.prog 33 #[.agg #[.int .i64 base, .int .i64 tracks, .slice A2 l2.length c2, .slice A3 l3.length c3], .agg #[.int .i64 base', .int .i64 tracks', .slice B2 m2.length d2, .slice B3 m3.length d3]] W fun e w' => Below W.heap.size W w' ∧
      ((e = .returned .nilIface ∧ ∃ n T T', AlikeOk base tracks l2 l3 base' tracks' m2 m3 n T T') ∨ (∃ x, (x = 1 ∨ x = 2 ∨ x = 3 ∨ x = 4) ∧ e = .returned (errW (some x)) ∧ ¬ ∃ n T T', AlikeOk base tracks l2 l3 base' tracks' m2 m3 n T T')) := by
  obtain ⟨k, r, hk, hr1, hr2⟩ := check_spec base tracks l2 l3
  obtain ⟨k', r', hk', hr1', hr2'⟩ := check_spec base' tracks' m2 m3
  have HC2 := Aside0.mk hC2
  have HC3 := Aside0.mk hC3
  have H2 := Aside0.mk h2
  have H3 := Aside0.mk h3
  have HD2 := Aside0.mk hD2
  have HD3 := Aside0.mk hD3
  have G2 := Aside0.mk g2
  have G3 := Aside0.mk g3
  have HK := Aside0.mk hk
  have HK' := Aside0.mk hk'
  clear hC2 hC3 h2 h3 hD2 hD3 g2 g3 hk hk'
  have HM := Mem.start W
  cases r with
  | some x =>
    have HN := Aside0.mk (show ¬ ∃ n T T', AlikeOk base tracks l2 l3 base' tracks' m2 m3 n T T' from fun ⟨n, T, T', h, _⟩ => by have := hr1.2 ⟨n, T, h⟩; cases this)
    have HX := Aside0.mk (hr2 x rfl)
    clear hr1 hr2 hr1' hr2'
    go_enter Try.func33, Try.ntmps33
    go_wp2_with (first
      | ((with_reducible refine gate_dst (N := 2) rfl ?_); refine box_event ?hg (N := 2) ?hd (cs := #[.int .i64 base, .int .i64 tracks, .slice A2 l2.length c2, .slice A3 l3.length c3]) (t := 25) ?hr ?_; (case hd => rfl); (case hg => rfl); (case hr => first | (go_simp; done) | (go_simp; rfl)); intro q2 hg1 w1 hb1 hbel; have HM1 := HM.blk_ hg1 hb1 hbel; clear HM hg1 hb1 hbel)
      | ((with_reducible refine gate_dst (N := 3) rfl ?_); refine box_event ?hg (N := 3) ?hd (cs := #[.int .i64 base', .int .i64 tracks', .slice B2 m2.length d2, .slice B3 m3.length d3]) (t := 25) ?hr ?_; (case hd => rfl); (case hg => rfl); (case hr => first | (go_simp; done) | (go_simp; rfl)); intro q3 hg1 w2 hb1 hbel; have HM2 := HM1.blk_ hg1 hb1 hbel; clear HM1 hg1 hb1 hbel)
      | ((with_reducible refine gate_dst (N := 7) rfl ?_); (refine HM2.loadAll 1 rfl 25 (.tmp 2) rfl _ rfl Try.underlying25 rfl (by exact infoA4) rfl ?_))
      | (go_at_call 26; refine (auto_Check.calls k base tracks A2 c2 l2 A3 c3 l3 (some x) _ (Kd.C_below HC2.out HM2.below) H2.out (Kd.C_below HC3.out HM2.below) H3.out HK.out).mono ?_; rintro e w3 ⟨rfl, hb⟩; have HM3 := HM2.grow hb; clear HM2 hb; simp only [errW_some]))
    refine bodyPost_ret (results_single rfl (.tmp .nil)) (by rfl) ⟨HM3.below, .inr ⟨x, HX.out, rfl, HN.out⟩⟩
  | none =>
    obtain ⟨n, T, hok⟩ := hr1.1 rfl
    have HOK := Aside0.mk hok
    clear hr1 hr2 hok
    cases r' with
    | some x =>
      have HN := Aside0.mk (show ¬ ∃ n T T', AlikeOk base tracks l2 l3 base' tracks' m2 m3 n T T' from fun ⟨n, T, T', _, h, _⟩ => by have := hr1'.2 ⟨n, T', h⟩; cases this)
      have HX := Aside0.mk (hr2' x rfl)
      clear hr1' hr2'
      go_enter Try.func33, Try.ntmps33
      go_wp2_with (first
        | ((with_reducible refine gate_dst (N := 2) rfl ?_); refine box_event ?hg (N := 2) ?hd (cs := #[.int .i64 base, .int .i64 tracks, .slice A2 l2.length c2, .slice A3 l3.length c3]) (t := 25) ?hr ?_; (case hd => rfl); (case hg => rfl); (case hr => first | (go_simp; done) | (go_simp; rfl)); intro q2 hg1 w1 hb1 hbel; have HM1 := HM.blk_ hg1 hb1 hbel; clear HM hg1 hb1 hbel)
        | ((with_reducible refine gate_dst (N := 3) rfl ?_); refine box_event ?hg (N := 3) ?hd (cs := #[.int .i64 base', .int .i64 tracks', .slice B2 m2.length d2, .slice B3 m3.length d3]) (t := 25) ?hr ?_; (case hd => rfl); (case hg => rfl); (case hr => first | (go_simp; done) | (go_simp; rfl)); intro q3 hg1 w2 hb1 hbel; have HM2 := HM1.blk_ hg1 hb1 hbel; clear HM1 hg1 hb1 hbel)
        | ((with_reducible refine gate_dst (N := 7) rfl ?_); (refine HM2.loadAll 1 rfl 25 (.tmp 2) rfl _ rfl Try.underlying25 rfl (by exact infoA4) rfl ?_))
        | (go_at_call 26; (first
          | (refine (auto_Check.calls k base tracks A2 c2 l2 A3 c3 l3 none _ (Kd.C_below HC2.out HM2.below) H2.out (Kd.C_below HC3.out HM2.below) H3.out HK.out).mono ?_; rintro e w3 ⟨rfl, hb⟩; have HM3 := HM2.grow hb; clear HM2 hb; simp only [errW_none])
          | (refine (auto_Check.calls k' base' tracks' B2 d2 m2 B3 d3 m3 (some x) _ (Kd.C_below HD2.out HM3.below) G2.out (Kd.C_below HD3.out HM3.below) G3.out HK'.out).mono ?_; rintro e w4 ⟨rfl, hb⟩; have HM4 := HM3.grow hb; clear HM3 hb; simp only [errW_some])))
        | ((with_reducible refine gate_dst (N := 12) rfl ?_); (refine HM3.loadAll 0 rfl 25 (.tmp 3) rfl _ rfl Try.underlying25 rfl (by exact infoA4) rfl ?_)))
      refine bodyPost_ret (results_single rfl (.tmp .nil)) (by rfl) ⟨HM4.below, .inr ⟨x, HX.out, rfl, HN.out⟩⟩
    | none =>
      obtain ⟨n', T', hok'⟩ := hr1'.1 rfl
      have HOK' := Aside0.mk hok'
      clear hr1' hr2' hok'
      by_cases hsame : base = base' ∧ tracks = tracks'
      · obtain ⟨rfl, rfl⟩ := hsame
        have hnn : n = n' := by have h1 := HOK.out.many; rw [HOK'.out.many] at h1; injection h1 with h1; exact h1.symm
        subst hnn
        go_enter Try.func33, Try.ntmps33
        go_wp2_with (first
          | ((with_reducible refine gate_dst (N := 2) rfl ?_); refine box_event ?hg (N := 2) ?hd (cs := #[.int .i64 base, .int .i64 tracks, .slice A2 l2.length c2, .slice A3 l3.length c3]) (t := 25) ?hr ?_; (case hd => rfl); (case hg => rfl); (case hr => first | (go_simp; done) | (go_simp; rfl)); intro q2 hg1 w1 hb1 hbel; have HM1 := HM.blk_ hg1 hb1 hbel; clear HM hg1 hb1 hbel)
          | ((with_reducible refine gate_dst (N := 3) rfl ?_); refine box_event ?hg (N := 3) ?hd (cs := #[.int .i64 base, .int .i64 tracks, .slice B2 m2.length d2, .slice B3 m3.length d3]) (t := 25) ?hr ?_; (case hd => rfl); (case hg => rfl); (case hr => first | (go_simp; done) | (go_simp; rfl)); intro q3 hg1 w2 hb1 hbel; have HM2 := HM1.blk_ hg1 hb1 hbel; clear HM1 hg1 hb1 hbel)
          | ((with_reducible refine gate_dst (N := 7) rfl ?_); (refine HM2.loadAll 1 rfl 25 (.tmp 2) rfl _ rfl Try.underlying25 rfl (by exact infoA4) rfl ?_))
          | (go_at_call 26; (first
            | (refine (auto_Check.calls k base tracks A2 c2 l2 A3 c3 l3 none _ (Kd.C_below HC2.out HM2.below) H2.out (Kd.C_below HC3.out HM2.below) H3.out HK.out).mono ?_; rintro e w3 ⟨rfl, hb⟩; have HM3 := HM2.grow hb; clear HM2 hb; simp only [errW_none])
            | (refine (auto_Check.calls k' base tracks B2 d2 m2 B3 d3 m3 none _ (Kd.C_below HD2.out HM3.below) G2.out (Kd.C_below HD3.out HM3.below) G3.out HK'.out).mono ?_; rintro e w4 ⟨rfl, hb⟩; have HM4 := HM3.grow hb; clear HM3 hb; simp only [errW_none]; have hc0 : w4.cell? ⟨q2, 0, none⟩ = some (.int .i64 base) := (HM4.cell (i := 1) rfl 0).1; have hc1 : w4.cell? ⟨q2, 1, none⟩ = some (.int .i64 tracks) := (HM4.cell (i := 1) rfl 1).1; have hd0 : w4.cell? ⟨q3, 0, none⟩ = some (.int .i64 base) := (HM4.cell (i := 0) rfl 0).1; have hd1 : w4.cell? ⟨q3, 1, none⟩ = some (.int .i64 tracks) := (HM4.cell (i := 0) rfl 1).1)))
          | ((with_reducible refine gate_dst (N := 12) rfl ?_); (refine HM3.loadAll 0 rfl 25 (.tmp 3) rfl _ rfl Try.underlying25 rfl (by exact infoA4) rfl ?_)))
        refine bodyPost_ret (results_single rfl (.tmp .nil)) (by rfl) ⟨HM4.below, .inl ⟨rfl, n, T, T', HOK.out, HOK'.out, rfl, rfl⟩⟩
      · have HN := Aside0.mk (show ¬ ∃ n T T', AlikeOk base tracks l2 l3 base' tracks' m2 m3 n T T' from fun ⟨n, T, T', _, _, h⟩ => hsame h)
        by_cases hbs : base = base'
        · subst hbs
          have htt : tracks ≠ tracks' := fun h => hsame ⟨rfl, h⟩
          have hteq : (tracks == tracks') = false := by simpa using htt
          clear hsame
          go_enter Try.func33, Try.ntmps33
          go_wp2_with (first
            | ((with_reducible refine gate_dst (N := 2) rfl ?_); refine box_event ?hg (N := 2) ?hd (cs := #[.int .i64 base, .int .i64 tracks, .slice A2 l2.length c2, .slice A3 l3.length c3]) (t := 25) ?hr ?_; (case hd => rfl); (case hg => rfl); (case hr => first | (go_simp; done) | (go_simp; rfl)); intro q2 hg1 w1 hb1 hbel; have HM1 := HM.blk_ hg1 hb1 hbel; clear HM hg1 hb1 hbel)
            | ((with_reducible refine gate_dst (N := 3) rfl ?_); refine box_event ?hg (N := 3) ?hd (cs := #[.int .i64 base, .int .i64 tracks', .slice B2 m2.length d2, .slice B3 m3.length d3]) (t := 25) ?hr ?_; (case hd => rfl); (case hg => rfl); (case hr => first | (go_simp; done) | (go_simp; rfl)); intro q3 hg1 w2 hb1 hbel; have HM2 := HM1.blk_ hg1 hb1 hbel; clear HM1 hg1 hb1 hbel)
            | ((with_reducible refine gate_dst (N := 7) rfl ?_); (refine HM2.loadAll 1 rfl 25 (.tmp 2) rfl _ rfl Try.underlying25 rfl (by exact infoA4) rfl ?_))
            | (go_at_call 26; (first
              | (refine (auto_Check.calls k base tracks A2 c2 l2 A3 c3 l3 none _ (Kd.C_below HC2.out HM2.below) H2.out (Kd.C_below HC3.out HM2.below) H3.out HK.out).mono ?_; rintro e w3 ⟨rfl, hb⟩; have HM3 := HM2.grow hb; clear HM2 hb; simp only [errW_none])
              | (refine (auto_Check.calls k' base tracks' B2 d2 m2 B3 d3 m3 none _ (Kd.C_below HD2.out HM3.below) G2.out (Kd.C_below HD3.out HM3.below) G3.out HK'.out).mono ?_; rintro e w4 ⟨rfl, hb⟩; have HM4 := HM3.grow hb; clear HM3 hb; simp only [errW_none]; have hc0 : w4.cell? ⟨q2, 0, none⟩ = some (.int .i64 base) := (HM4.cell (i := 1) rfl 0).1; have hc1 : w4.cell? ⟨q2, 1, none⟩ = some (.int .i64 tracks) := (HM4.cell (i := 1) rfl 1).1; have hd0 : w4.cell? ⟨q3, 0, none⟩ = some (.int .i64 base) := (HM4.cell (i := 0) rfl 0).1; have hd1 : w4.cell? ⟨q3, 1, none⟩ = some (.int .i64 tracks') := (HM4.cell (i := 0) rfl 1).1)))
            | ((with_reducible refine gate_dst (N := 12) rfl ?_); (refine HM3.loadAll 0 rfl 25 (.tmp 3) rfl _ rfl Try.underlying25 rfl (by exact infoA4) rfl ?_)))
          refine bodyPost_ret (results_single rfl (.tmp .nil)) (by rfl) ⟨HM4.below, .inr ⟨2, .inr (.inl rfl), rfl, HN.out⟩⟩
        · have hbeq : (base == base') = false := by simpa using hbs
          clear hsame
          go_enter Try.func33, Try.ntmps33
          go_wp2_with (first
            | ((with_reducible refine gate_dst (N := 2) rfl ?_); refine box_event ?hg (N := 2) ?hd (cs := #[.int .i64 base, .int .i64 tracks, .slice A2 l2.length c2, .slice A3 l3.length c3]) (t := 25) ?hr ?_; (case hd => rfl); (case hg => rfl); (case hr => first | (go_simp; done) | (go_simp; rfl)); intro q2 hg1 w1 hb1 hbel; have HM1 := HM.blk_ hg1 hb1 hbel; clear HM hg1 hb1 hbel)
            | ((with_reducible refine gate_dst (N := 3) rfl ?_); refine box_event ?hg (N := 3) ?hd (cs := #[.int .i64 base', .int .i64 tracks', .slice B2 m2.length d2, .slice B3 m3.length d3]) (t := 25) ?hr ?_; (case hd => rfl); (case hg => rfl); (case hr => first | (go_simp; done) | (go_simp; rfl)); intro q3 hg1 w2 hb1 hbel; have HM2 := HM1.blk_ hg1 hb1 hbel; clear HM1 hg1 hb1 hbel)
            | ((with_reducible refine gate_dst (N := 7) rfl ?_); (refine HM2.loadAll 1 rfl 25 (.tmp 2) rfl _ rfl Try.underlying25 rfl (by exact infoA4) rfl ?_))
            | (go_at_call 26; (first
              | (refine (auto_Check.calls k base tracks A2 c2 l2 A3 c3 l3 none _ (Kd.C_below HC2.out HM2.below) H2.out (Kd.C_below HC3.out HM2.below) H3.out HK.out).mono ?_; rintro e w3 ⟨rfl, hb⟩; have HM3 := HM2.grow hb; clear HM2 hb; simp only [errW_none])
              | (refine (auto_Check.calls k' base' tracks' B2 d2 m2 B3 d3 m3 none _ (Kd.C_below HD2.out HM3.below) G2.out (Kd.C_below HD3.out HM3.below) G3.out HK'.out).mono ?_; rintro e w4 ⟨rfl, hb⟩; have HM4 := HM3.grow hb; clear HM3 hb; simp only [errW_none]; have hc0 : w4.cell? ⟨q2, 0, none⟩ = some (.int .i64 base) := (HM4.cell (i := 1) rfl 0).1; have hc1 : w4.cell? ⟨q2, 1, none⟩ = some (.int .i64 tracks) := (HM4.cell (i := 1) rfl 1).1; have hd0 : w4.cell? ⟨q3, 0, none⟩ = some (.int .i64 base') := (HM4.cell (i := 0) rfl 0).1; have hd1 : w4.cell? ⟨q3, 1, none⟩ = some (.int .i64 tracks') := (HM4.cell (i := 0) rfl 1).1)))
            | ((with_reducible refine gate_dst (N := 12) rfl ?_); (refine HM3.loadAll 0 rfl 25 (.tmp 3) rfl _ rfl Try.underlying25 rfl (by exact infoA4) rfl ?_)))
          refine bodyPost_ret (results_single rfl (.tmp .nil)) (by rfl) ⟨HM4.below, .inr ⟨2, .inr (.inl rfl), rfl, HN.out⟩⟩
end Go.Proofs.Ytlffephcbfdknaa.Wk
