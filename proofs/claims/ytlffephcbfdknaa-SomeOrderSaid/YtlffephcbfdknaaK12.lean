/- Several texts in one: The plain law of SomeOrder: leaving two tracks out in either order; leaving one out of two put together. -/
import Derived.Test.YtlffephcbfdknaaK9
import Derived.Test.YtlffephcbfdknaaK5
import Derived.Test.YtlffephcbfdknaaKBth
import Derived.Test.YtlffephcbfdknaaK8
import Derived.Test.YtlffephcbfdknaaK2
import Derived.Test.YtlffephcbfdknaaKBo
import Derived.Test.YtlffephcbfdknaaKChkA
/- The plain law of SomeOrder: leaving two tracks out in either order; leaving one out of two put together. -/
set_option linter.unusedVariables false
set_option linter.unusedSimpArgs false
namespace Go.Proofs.Ytlffephcbfdknaa.Wk
open Go.Proofs.Fil Go.Proofs.Ytlffephcbfdknaa.Tbl Go.Proofs.Ytlffephcbfdknaa.Chk
theorem fits_split {wt : Nat → List Nat} : ∀ {z2 u2 u : List Nat}, Fits wt u (z2 ++ u2) → ∃ a b, u = a ++ b ∧ Fits wt a z2 ∧ Fits wt b u2 := by
  intro z2
  induction z2 with
  | nil => intro u2 u h; exact ⟨[], u, rfl, fits_nil.2 rfl, h⟩
  | cons l z2 ih =>
    intro u2 u h
    obtain ⟨k, u', rfl, h1, h2⟩ := fits_cons.1 h
    obtain ⟨a, b, rfl, h3, h4⟩ := ih h2
    exact ⟨k :: a, b, rfl, ⟨h1, h3⟩, h4⟩
theorem fits_mem {wt : Nat → List Nat} : ∀ {w u : List Nat}, Fits wt u w → ∀ k ∈ u, ∃ l ∈ w, k ∈ wt l := by
  intro w
  induction w with
  | nil => intro u h k hk; rw [fits_nil.1 h] at hk; cases hk
  | cons l w ih =>
    intro u h k hk
    obtain ⟨k', u', rfl, h1, h2⟩ := fits_cons.1 h
    rcases List.mem_cons.1 hk with rfl | hk
    · exact ⟨l, by simp, h1⟩
    · obtain ⟨l', hl', h3⟩ := ih h2 k hk
      exact ⟨l', List.mem_cons_of_mem _ hl', h3⟩
theorem fits_comp {wt1 wt2 : Nat → List Nat} : ∀ {w u2 u : List Nat}, Fits wt2 u2 w → Fits wt1 u u2 → Fits (fun l => (wt2 l).flatMap wt1) u w := by
  intro w
  induction w with
  | nil => intro u2 u h h'; rw [fits_nil.1 h] at h'; exact fits_nil.2 (fits_nil.1 h')
  | cons l w ih =>
    intro u2 u h h'
    obtain ⟨k, v, rfl, h1, h2⟩ := fits_cons.1 h
    obtain ⟨k', v', rfl, h3, h4⟩ := fits_cons.1 h'
    exact ⟨List.mem_flatMap.2 ⟨k, h1, h3⟩, ih h2 h4⟩
theorem fits_comp_inv {wt1 wt2 : Nat → List Nat} : ∀ {w u : List Nat}, Fits (fun l => (wt2 l).flatMap wt1) u w → ∃ u2, Fits wt2 u2 w ∧ Fits wt1 u u2 := by
  intro w
  induction w with
  | nil => intro u h; exact ⟨[], fits_nil.2 rfl, fits_nil.2 (fits_nil.1 h)⟩
  | cons l w ih =>
    intro u h
    obtain ⟨k, v, rfl, h1, h2⟩ := fits_cons.1 h
    obtain ⟨j, hj, hk⟩ := List.mem_flatMap.1 h1
    obtain ⟨u2, h3, h4⟩ := ih h2
    exact ⟨j :: u2, ⟨hj, h3⟩, ⟨hk, h4⟩⟩
theorem all_comp_inv {wt1 : Nat → List Nat} {ze : List Nat} : ∀ {z : List Nat}, (∀ k ∈ z, k ∈ ze.flatMap wt1) → ∃ z2, (∀ k ∈ z2, k ∈ ze) ∧ Fits wt1 z z2 := by
  intro z
  induction z with
  | nil => intro _; exact ⟨[], by simp, fits_nil.2 rfl⟩
  | cons k z ih =>
    intro h
    obtain ⟨j, hj, hk⟩ := List.mem_flatMap.1 (h k (by simp))
    obtain ⟨z2, h1, h2⟩ := ih (fun k' hk' => h k' (List.mem_cons_of_mem _ hk'))
    exact ⟨j :: z2, fun k' hk' => (List.mem_cons.1 hk').elim (fun e => e ▸ hj) (h1 k'), ⟨hk, h2⟩⟩
/-- one after the other -/
theorem someL_comp {n' n'' : Nat} {wt1 wt2 : Nat → List Nat} {L : Lang} (h2 : ∀ l, l < n'' → ∀ k ∈ wt2 l, k < n') (h0 : 0 < n'') (hz : 0 ∈ wt2 0) :
    someL n'' wt2 (wt2 0) (someL n' wt1 (wt1 0) L) = someL n'' (fun l => (wt2 l).flatMap wt1) ((wt2 0).flatMap wt1) L := by
  funext w
  rw [Bool.eq_iff_iff, someL_iff, someL_iff]
  refine and_congr_right (fun hw => ?_)
  constructor
  · rintro ⟨z2, u2, hz2, hf2, h⟩
    obtain ⟨hall, z1, u1, hz1, hf1, hL⟩ := someL_iff.1 h
    obtain ⟨a, b, rfl, ha, hb⟩ := fits_split hf1
    refine ⟨z1 ++ a, b, fun k hk => ?_, fits_comp hf2 hb, by rwa [List.append_assoc]⟩
    rcases List.mem_append.1 hk with hk | hk
    · exact List.mem_flatMap.2 ⟨0, hz, hz1 k hk⟩
    · obtain ⟨l, hl, hkl⟩ := fits_mem ha k hk
      exact List.mem_flatMap.2 ⟨l, hz2 l hl, hkl⟩
  · rintro ⟨z, u, hz', hf, hL⟩
    obtain ⟨z2, h3, h4⟩ := all_comp_inv hz'
    obtain ⟨u2, h5, h6⟩ := fits_comp_inv hf
    refine ⟨z2, u2, h3, h5, someL_iff.2 ⟨fun l hl => ?_, [], z ++ u, by simp, fits_append h4 h6, hL⟩⟩
    rcases List.mem_append.1 hl with hl | hl
    · exact h2 0 h0 l (h3 l hl)
    · exact fits_lt h2 h5 hw l hl
theorem fits_congr {wt wt' : Nat → List Nat} {n : Nat} (h : ∀ l, l < n → ∀ k, k ∈ wt l → k ∈ wt' l) : ∀ {w u : List Nat}, (∀ l ∈ w, l < n) → Fits wt u w → Fits wt' u w := by
  intro w
  induction w with
  | nil => intro u _ hf; exact fits_nil.2 (fits_nil.1 hf)
  | cons l w ih =>
    intro u hw hf
    obtain ⟨k, v, rfl, h1, h2⟩ := fits_cons.1 hf
    exact ⟨h l (hw l (by simp)) k h1, ih (fun l' hl' => hw l' (List.mem_cons_of_mem _ hl')) h2⟩
theorem someL_congr {n : Nat} {wt wt' : Nat → List Nat} {L : Lang} (h0 : 0 < n) (h : ∀ l, l < n → ∀ k, k ∈ wt l ↔ k ∈ wt' l) : someL n wt (wt 0) L = someL n wt' (wt' 0) L := by
  funext w
  rw [Bool.eq_iff_iff, someL_iff, someL_iff]
  refine and_congr_right (fun hw => ?_)
  constructor
  · rintro ⟨z, u, h1, h2, h3⟩
    exact ⟨z, u, fun k hk => (h 0 h0 k).1 (h1 k hk), fits_congr (fun l hl k => (h l hl k).1) hw h2, h3⟩
  · rintro ⟨z, u, h1, h2, h3⟩
    exact ⟨z, u, fun k hk => (h 0 h0 k).2 (h1 k hk), fits_congr (fun l hl k => (h l hl k).2) hw h2, h3⟩
/-- of two put together by 'or' -/
theorem someL_or {n : Nat} {wt : Nat → List Nat} {ze : List Nat} {L M : Lang} : someL n wt ze (bothL 14 L M) = bothL 14 (someL n wt ze L) (someL n wt ze M) := by
  funext w
  show _ = (someL n wt ze L w || someL n wt ze M w)
  rw [Bool.eq_iff_iff, Bool.or_eq_true, someL_iff, someL_iff, someL_iff, ← and_or_left]
  refine and_congr_right (fun hw => ?_)
  constructor
  · rintro ⟨z, u, h1, h2, h3⟩
    have h3' : (L (z ++ u) || M (z ++ u)) = true := h3
    rcases (Bool.or_eq_true _ _).mp h3' with h | h
    · exact .inl ⟨z, u, h1, h2, h⟩
    · exact .inr ⟨z, u, h1, h2, h⟩
  · rintro (⟨z, u, h1, h2, h3⟩ | ⟨z, u, h1, h2, h3⟩)
    · exact ⟨z, u, h1, h2, show (L (z ++ u) || M (z ++ u)) = true by rw [h3]; rfl⟩
    · exact ⟨z, u, h1, h2, show (L (z ++ u) || M (z ++ u)) = true by rw [h3, Bool.or_true]⟩
def chkO (b T : Nat) : Bool := match manyN b T with
  | none => true
  | some _ => decide (T < 2) || ((List.range (radix b ^ (T - 2))).all fun l =>
      (((wtab (radix b) (T - 1) 0 l).flatMap (wtab (radix b) T 1)).all fun k => ((wtab (radix b) (T - 1) 0 l).flatMap (wtab (radix b) T 0)).contains k) &&
      (((wtab (radix b) (T - 1) 0 l).flatMap (wtab (radix b) T 0)).all fun k => ((wtab (radix b) (T - 1) 0 l).flatMap (wtab (radix b) T 1)).contains k)) && (wtab (radix b) (T - 1) 0 0).contains 0
theorem chkO_all : ∀ b : Fin 7, ∀ T : Fin 6, chkO b.val T.val = true := by decide +kernel
theorem order_tab {base tracks : Int} {n : Nat} (h : manyN base tracks = some n) (ht : 2 ≤ tracks) : 0 ∈ wtab (radix base) (tracks.toNat - 1) 0 0 ∧
    ∀ l, l < radix base ^ (tracks.toNat - 2) → ∀ k, k ∈ (wtab (radix base) (tracks.toNat - 1) 0 l).flatMap (wtab (radix base) tracks.toNat 1) ↔ k ∈ (wtab (radix base) (tracks.toNat - 1) 0 l).flatMap (wtab (radix base) tracks.toNat 0) := by
  obtain ⟨h1, h2, h3, h4, h5, h6⟩ := many_range h
  have hk := chkO_all ⟨base.toNat, by omega⟩ ⟨tracks.toNat, by omega⟩
  unfold chkO at hk
  simp only [Int.toNat_of_nonneg (show 0 ≤ base by omega), Int.toNat_of_nonneg h3, h] at hk
  rw [decide_eq_false (by omega), Bool.false_or, Bool.and_eq_true] at hk
  refine ⟨List.contains_iff_mem.1 hk.2, fun l hl k => ?_⟩
  have h7 := List.all_eq_true.1 hk.1 l (List.mem_range.2 hl)
  rw [Bool.and_eq_true] at h7
  exact ⟨fun h => List.contains_iff_mem.1 (List.all_eq_true.1 h7.1 k h), fun h => List.contains_iff_mem.1 (List.all_eq_true.1 h7.2 k h)⟩
end Go.Proofs.Ytlffephcbfdknaa.Wk

/- Walk by hand: some.Sets, of the automaton same. -/
set_option linter.unusedVariables false
set_option linter.unusedSimpArgs false
namespace Go.Proofs.Ytlffephcbfdknaa.Wk
open Go.RowKit Go.Proofs.YtlffephcbfdknaaW.PrintWords Go.Proofs.YtlffephcbfdknaaW.PrintMore Go.Proofs.YtlffephcbfdknaaW.PrintLast Go.Proofs.Sep Go.Proofs.Fil Go.Proofs.Ytlffephcbfdknaa.Chk Go.Proofs.Ytlffephcbfdknaa.PSomeTakes Go.Proofs.Ytlffephcbfdknaa.Tbl
theorem sOS0' : sO 2 2 1 S0 = [[0, 1]] := by
  unfold sO someO
  rw [bfsI_stop (succs (sN 2 2) (stepS S0 (sW 2 2 1))) (firstS S0 (sW 2 2 1 0)) (i := 1) (by decide +kernel) (by decide)]
  decide +kernel
set_option maxRecDepth 100000 in
set_option maxHeartbeats 4000000 in
theorem sets_calls (A2 : Option Addr) (c2 : Nat) (A3 : Option Addr) (c3 : Nat) (W : World) (hC2 : kL.C W A2 (II S0).length (II S0)) (h2 : (II S0).length ≤ c2) (hC3 : kB.C W A3 s0.length s0) (h3 : s0.length ≤ c3) :
    Calls Try.prog 15 #[.agg #[.int .i64 2, .int .i64 2, .slice A2 (II S0).length c2, .slice A3 s0.length c3], .int .i64 1] W fun e w' => e = .returned (.tuple #[.int .i64 1, .nilIface]) ∧ Below W.heap.size W w' := by
  have HC2 := Aside0.mk hC2
  have HC3 := Aside0.mk hC3
  have H2 := Aside0.mk h2
  have H3 := Aside0.mk h3
  clear hC2 hC3 h2 h3
  have HM := Mem.start W
  obtain ⟨l2, hl2⟩ : ∃ l2, l2 = II S0 := ⟨_, rfl⟩
  obtain ⟨l3, hl3⟩ : ∃ l3, l3 = s0 := ⟨_, rfl⟩
  rw [← hl2] at HC2 H2 ⊢
  rw [← hl3] at HC3 H3 ⊢
  have HL2 := Aside0.mk hl2
  have HL3 := Aside0.mk hl3
  clear hl2 hl3
  go_enter Try.func15, Try.ntmps15
  go_wp2_with (first
    | ((with_reducible refine gate_dst (N := 2) rfl ?_); refine box_event ?hg (N := 2) ?hd (cs := #[.int .i64 2, .int .i64 2, .slice A2 l2.length c2, .slice A3 l3.length c3]) (t := 25) ?hr ?_; (case hd => rfl); (case hg => rfl); (case hr => first | (go_simp; done) | (go_simp; rfl)); intro g2 hg1 w1 hb1 hbel; have HM1 := HM.blk_ hg1 hb1 hbel; clear HM hg1 hb1 hbel)
    | ((with_reducible refine gate_dst (N := 11) rfl ?_); (refine HM1.loadAll 0 rfl 25 (.tmp 2) rfl _ rfl Try.underlying25 rfl (by exact infoA4) rfl ?_))
    | (go_at_call 28; (refine (left_calls 2 2 A2 c2 l2 A3 c3 l3 1 _ (Kd.C_below HC2.out HM1.below) H2.out (Kd.C_below HC3.out HM1.below) H3.out).mono ?_; rintro e w3 ⟨hb, hcase⟩; have hcase2 : ∃ (Am : Option Addr) (cm : Nat) (Ae : Option Addr) (ce : Nat) (As : Option Addr) (cs : Nat) (vn : Value), e = .returned (.tuple #[.agg #[.int .i64 2, .int .i64 2, .slice Am 2 cm, .slice Ae 2 ce], .slice As 1 cs, vn, .nilIface]) := (by rw [HL2.out, HL3.out] at hcase; rcases hcase with ⟨n2, T2, out2, tr2, h1, h2, h3, _, _, va, vb, vs, vn, he, hr1, hr2, hr3, _⟩ | ⟨x, _, _, _, _, _, _, _, _, _, _, h1 | ⟨_, h1, _⟩ | ⟨_, n2, T2, out2, tr2, h1, h2, h3, _, h4⟩⟩; (obtain rfl : tr2 = 1 := by omega); (obtain ⟨rfl, rfl, rfl⟩ := can_uniq okS0 canS0 h1 h2; obtain ⟨Am, cm, rfl⟩ := Kd.R_slice hr1; obtain ⟨Ae, ce, rfl⟩ := Kd.R_slice hr2; obtain ⟨As, cs, rfl⟩ := Kd.R_slice hr3; rw [sOS0'] at he; exact ⟨Am, cm, Ae, ce, As, cs, vn, he⟩); (exact absurd ⟨4, S0, okS0⟩ h1); (exact absurd h1 (by omega)); (obtain rfl : tr2 = 1 := by omega); (obtain ⟨rfl, rfl, rfl⟩ := can_uniq okS0 canS0 h1 h2; rw [sOS0'] at h4; exact absurd h4 (by decide))); obtain ⟨Am, cm, Ae, ce, As, cs, vn, rfl⟩ := hcase2; clear hcase; have HM2 := HM1.grow hb; clear HM1 hb))
    | ((with_reducible refine gate_dst (N := 6) rfl ?_); refine box_event ?hg (N := 6) ?hd (cs := #[.int .i64 0, .int .i64 0, .slice none 0 0, .slice none 0 0]) (t := 25) ?hr ?_; (case hd => rfl); (case hg => rfl); (case hr => first | (go_simp; done) | (go_simp; rfl)); intro g6 hg6 w6 hb6 hbel; have HM3 := HM2.blk_ hg6 hb6 hbel; clear HM2 hg6 hb6 hbel)
    | ((with_reducible refine gate_store (t := 25) (p := 6) rfl ?_); (refine HM3.storeAll 0 rfl rfl 25 (.tmp 6) _ rfl (us := #[.int .i64 2, .int .i64 2, .slice Am 2 cm, .slice Ae 2 ce]) rfl rfl (one4 rfl rfl rfl rfl) (by exact infoA4) rfl rfl ?_; intro w7 HM4; clear HM3)))
  refine bodyPost_ret (results_list (rs := [.tmp 4, .tmp 5]) rfl (by simp) (.tmp (.tmp .nil))) (by rfl) ⟨rfl, HM4.below⟩
end Go.Proofs.Ytlffephcbfdknaa.Wk

/- What Some and Both answer, told ahead of the call: done or not, and with what. -/
set_option linter.unusedVariables false
set_option linter.unusedSimpArgs false
namespace Go.Proofs.Ytlffephcbfdknaa.Wk
open Go.RowKit Go.Proofs.YtlffephcbfdknaaW.PrintWords Go.Proofs.YtlffephcbfdknaaW.PrintMore Go.Proofs.YtlffephcbfdknaaW.PrintLast Go.Proofs.Sep Go.Proofs.Fil Go.Proofs.Ytlffephcbfdknaa.Chk Go.Proofs.Ytlffephcbfdknaa.PSomeTakes Go.Proofs.Ytlffephcbfdknaa.Tbl
/-- rows that an equality of automata may go through -/
def Sized (x : List (List Int)) (y : List Bool) : Prop := x.length < 9223372036854775807 ∧ (∀ r ∈ x, r.length < 9223372036854775807) ∧ y.length < 9223372036854775807
theorem sized_nil : Sized [] [] := ⟨by decide, by simp, by decide⟩
theorem sized_wf {n : Nat} {m : Tab × List Bool} (h : WF n m.1 m.2) (h8 : m.1.length ≤ 80) (hn : n ≤ 1000) : Sized (II m.1) m.2 := by
  refine ⟨by rw [II_len]; omega, fun r hr => ?_, by have := h.len; omega⟩
  obtain ⟨s, hs, rfl⟩ := List.mem_map.1 hr
  rw [I_len, h.row s hs]
  omega
/-- done, with these; or not, with nothing -/
def Answers (f : Nat) (args : Array Value) (ok : Bool) (b t : Int) (x : List (List Int)) (y : List Bool) (W : World) : Prop :=
  Calls Try.prog f args W fun e w' => ∃ r v2 v3, (r = none ↔ ok = true) ∧ e = .returned (.tuple #[.agg #[.int .i64 b, .int .i64 t, v2, v3], errW r]) ∧ kL.R 26 w' W.heap.size (fun _ => True) v2 x ∧ kB.R 4 w' W.heap.size (fun _ => True) v3 y ∧ Below W.heap.size W w'
/-- what Some answers -/
structure SomeR (base tracks : Int) (l2 : List (List Int)) (l3 : List Bool) (track : Int) (ok : Bool) (b t : Int) (x : List (List Int)) (y : List Bool) : Prop where
  yes : ok = true → b = base ∧ t = tracks - 1 ∧ ∃ n T out tr m, SomesTo base tracks l2 l3 track n T out tr m ∧ x = II m.1 ∧ y = m.2
  size : Sized x y
  calls : ∀ (A2 : Option Addr) (c2 : Nat) (A3 : Option Addr) (c3 : Nat) (W : World), kL.C W A2 l2.length l2 → l2.length ≤ c2 → kB.C W A3 l3.length l3 → l3.length ≤ c3 →
    Answers 12 #[.agg #[.int .i64 base, .int .i64 tracks, .slice A2 l2.length c2, .slice A3 l3.length c3], .int .i64 track] ok b t x y W
theorem some_any (base tracks : Int) (l2 : List (List Int)) (l3 : List Bool) (track : Int) : ∃ ok b t x y, SomeR base tracks l2 l3 track ok b t x y := by
  by_cases h : ∃ n T out tr m, SomesTo base tracks l2 l3 track n T out tr m
  · obtain ⟨n, T, out, tr, m, h⟩ := h
    refine ⟨true, base, tracks - 1, II m.1, m.2, fun _ => ⟨rfl, rfl, n, T, out, tr, m, h, rfl, rfl⟩, sized_wf h.ok.wf h.ok.small (by have := manyN_le h.ok.many; omega), fun A2 c2 A3 c3 W a1 a2 a3 a4 => ?_⟩
    refine (some_calls base tracks A2 c2 l2 A3 c3 l3 track W a1 a2 a3 a4).mono ?_
    rintro e w' ⟨hb, hp⟩
    obtain ⟨v2, v3, he, h2, h3⟩ := hp.yes h
    exact ⟨none, v2, v3, ⟨fun _ => rfl, fun _ => rfl⟩, by rw [errW_none]; exact he, h2, h3, hb⟩
  · refine ⟨false, 0, 0, [], [], (fun h => by cases h), sized_nil, fun A2 c2 A3 c3 W a1 a2 a3 a4 => ?_⟩
    refine (some_calls base tracks A2 c2 l2 A3 c3 l3 track W a1 a2 a3 a4).mono ?_
    rintro e w' ⟨hb, hp⟩
    obtain ⟨x, he⟩ := hp.no h
    have HM := ((Mem.start w').nil kL 26)
    have HM2 := ((Mem.start w').nil kB 4)
    exact ⟨some x, _, _, ⟨fun h => by (cases h), fun h => by (cases h)⟩, he, Kd.R_lower (HM.rowAt (i := 0) rfl) hb.size, Kd.R_lower (HM2.rowAt (i := 0) rfl) hb.size, hb⟩
/-- Both answers with an automaton. -/
def BothTo (how base tracks : Int) (l2 : List (List Int)) (l3 : List Bool) (base' tracks' : Int) (m2 : List (List Int)) (m3 : List Bool) (n : Nat) (T T' : Tab) (m : Tab × List Bool) : Prop :=
  AlikeOk base tracks l2 l3 base' tracks' m2 m3 n T T' ∧ Go.Proofs.Fil.Can n (bothL how (lof n (T, l3) 0) (lof n (T', m3) 0)) m ∧ m.1.length ≤ 80
/-- what Both answers -/
structure BothR (how base tracks : Int) (l2 : List (List Int)) (l3 : List Bool) (base' tracks' : Int) (m2 : List (List Int)) (m3 : List Bool) (ok : Bool) (b t : Int) (x : List (List Int)) (y : List Bool) : Prop where
  yes : ok = true → b = base ∧ t = tracks ∧ ∃ n T T' m, BothTo how base tracks l2 l3 base' tracks' m2 m3 n T T' m ∧ x = II m.1 ∧ y = m.2
  size : Sized x y
  calls : ∀ (A2 : Option Addr) (c2 : Nat) (A3 : Option Addr) (c3 : Nat) (B2 : Option Addr) (d2 : Nat) (B3 : Option Addr) (d3 : Nat) (W : World), kL.C W A2 l2.length l2 → l2.length ≤ c2 → kB.C W A3 l3.length l3 → l3.length ≤ c3 → kL.C W B2 m2.length m2 → m2.length ≤ d2 → kB.C W B3 m3.length m3 → m3.length ≤ d3 →
    Answers 16 #[.agg #[.int .i64 base, .int .i64 tracks, .slice A2 l2.length c2, .slice A3 l3.length c3], .agg #[.int .i64 base', .int .i64 tracks', .slice B2 m2.length d2, .slice B3 m3.length d3], .int .i64 how] ok b t x y W
theorem both_any (how : Int) (hhow : how = 14 ∨ how = 8 ∨ how = 4) (base tracks : Int) (l2 : List (List Int)) (l3 : List Bool) (base' tracks' : Int) (m2 : List (List Int)) (m3 : List Bool) : ∃ ok b t x y, BothR how base tracks l2 l3 base' tracks' m2 m3 ok b t x y := by
  by_cases h : ∃ n T T' m, BothTo how base tracks l2 l3 base' tracks' m2 m3 n T T' m
  · obtain ⟨n, T, T', m, h⟩ := h
    refine ⟨true, base, tracks, II m.1, m.2, fun _ => ⟨rfl, rfl, n, T, T', m, h, rfl, rfl⟩, sized_wf h.2.1.wf h.2.2 (by have := manyN_le h.1.1.many; omega), fun A2 c2 A3 c3 B2 d2 B3 d3 W a1 a2 a3 a4 a5 a6 a7 a8 => ?_⟩
    refine (both_calls base tracks A2 c2 l2 A3 c3 l3 base' tracks' B2 d2 m2 B3 d3 m3 how hhow W a1 a2 a3 a4 a5 a6 a7 a8).mono ?_
    rintro e w' ⟨hb, ⟨n2, S, S', m', h1, h2, h3, v2, v3, he, hr2, hr3⟩ | ⟨x, _, _, hno | ⟨_, n2, S, S', m', h1, h2, h3⟩⟩⟩
    · obtain ⟨rfl, rfl, rfl⟩ := h.1.uniq h1
      obtain rfl := h.2.1.unique h2
      exact ⟨none, v2, v3, ⟨fun _ => rfl, fun _ => rfl⟩, by rw [errW_none]; exact he, hr2, hr3, hb⟩
    · exact absurd ⟨n, T, T', h.1⟩ hno
    · obtain ⟨rfl, rfl, rfl⟩ := h.1.uniq h1
      obtain rfl := h.2.1.unique h2
      exact absurd h.2.2 (by omega)
  · refine ⟨false, 0, 0, [], [], (fun h => by cases h), sized_nil, fun A2 c2 A3 c3 B2 d2 B3 d3 W a1 a2 a3 a4 a5 a6 a7 a8 => ?_⟩
    refine (both_calls base tracks A2 c2 l2 A3 c3 l3 base' tracks' B2 d2 m2 B3 d3 m3 how hhow W a1 a2 a3 a4 a5 a6 a7 a8).mono ?_
    rintro e w' ⟨hb, ⟨n2, S, S', m', h1, h2, h3, _⟩ | ⟨x, _, he, _⟩⟩
    · exact absurd ⟨n2, S, S', m', h1, h2, h3⟩ h
    · have HM := ((Mem.start w').nil kL 26)
      have HM2 := ((Mem.start w').nil kB 4)
      exact ⟨some x, _, _, ⟨fun h => by (cases h), fun h => by (cases h)⟩, he, Kd.R_lower (HM.rowAt (i := 0) rfl) hb.size, Kd.R_lower (HM2.rowAt (i := 0) rfl) hb.size, hb⟩
end Go.Proofs.Ytlffephcbfdknaa.Wk

/- Walk by hand: the law SomeOrder. -/
set_option linter.unusedVariables false
set_option linter.unusedSimpArgs false
namespace Go.Proofs.Ytlffephcbfdknaa.Wk
open Go.RowKit Go.Proofs.YtlffephcbfdknaaW.PrintWords Go.Proofs.YtlffephcbfdknaaW.PrintMore Go.Proofs.YtlffephcbfdknaaW.PrintLast Go.Proofs.Sep Go.Proofs.Fil Go.Proofs.Ytlffephcbfdknaa.Chk Go.Proofs.Ytlffephcbfdknaa.PSomeTakes Go.Proofs.Ytlffephcbfdknaa.Tbl
theorem err_some {r : Option Int} (h : r = none ↔ false = true) : ∃ r0, r = some r0 := by
  cases r with
  | none => exact absurd (h.1 rfl) (by decide)
  | some r0 => exact ⟨r0, rfl⟩
theorem SomesTo.can {base tracks : Int} {l2 : List (List Int)} {l3 : List Bool} {track : Int} {n : Nat} {T : Tab} {out m : Tab × List Bool} {tr : Nat} (h : SomesTo base tracks l2 l3 track n T out tr m) : Go.Proofs.Fil.Can (sN base tracks) (lof (sN base tracks) m 0) m := by
  obtain ⟨h1, h2, h3, h4, h5, h6, h7⟩ := h
  have e1 : lof (sN base tracks) (m.1, m.2) 0 = lof (sN base tracks) (sA base tracks tr out.1 out.2) 0 := h6.lof (lang_proper _ _ _ _)
  show Go.Proofs.Fil.Can (sN base tracks) (lof (sN base tracks) (m.1, m.2) 0) m
  rw [e1]
  exact h6
theorem sN_less {base tracks : Int} {n : Nat} (h : manyN base tracks = some n) (ht : 0 < tracks) : manyN base (tracks - 1) = some (sN base tracks) := many_less h ht
/-- two tracks out, the second one first -/
theorem SomesTo.lang2 {base tracks : Int} {l2 : List (List Int)} {l3 : List Bool} {n n' : Nat} {T T' : Tab} {out out' m m' : Tab × List Bool} {tr : Nat} (h : SomesTo base tracks l2 l3 (tr : Int) n T out tr m) (h' : SomesTo base (tracks - 1) (II m.1) m.2 0 n' T' out' 0 m') :
    lof (sN base (tracks - 1)) m' 0 = someL (sN base (tracks - 1)) (fun l => (sW base (tracks - 1) 0 l).flatMap (sW base tracks tr)) ((sW base (tracks - 1) 0 0).flatMap (sW base tracks tr)) (lof n (T, l3) 0) := by
  have ht := h'.2.2.2.1
  have hok := h.ok
  have e := h'.lang
  obtain ⟨rfl, rfl⟩ := Ok.unique h'.1 hok
  rw [e, show (m.1, m.2) = m from rfl, h.lang]
  have hr := many_range h.1.many
  refine someL_comp (wtab_lt h'.1.many (by omega)) (Nat.pow_pos hr.2.2.2.2.2) ?_
  have h0 := (order_tab h.1.many (by omega)).1
  unfold sW
  rwa [show (tracks - 1).toNat = tracks.toNat - 1 by omega]
theorem order_eq {base tracks : Int} {l2 : List (List Int)} {l3 : List Bool} {n1 n2 n3 n4 : Nat} {T1 T2 T3 T4 : Tab} {p1 p2 p3 p4 m1 m2 m3 m4 : Tab × List Bool} (h1 : SomesTo base tracks l2 l3 1 n1 T1 p1 1 m1) (h2 : SomesTo base tracks l2 l3 0 n2 T2 p2 0 m2) (h3 : SomesTo base (tracks - 1) (II m1.1) m1.2 0 n3 T3 p3 0 m3) (h4 : SomesTo base (tracks - 1) (II m2.1) m2.2 0 n4 T4 p4 0 m4) : m3 = m4 := by
  have e3 := SomesTo.lang2 (tr := 1) h1 h3
  have e4 := SomesTo.lang2 (tr := 0) h2 h4
  obtain ⟨rfl, rfl⟩ := Ok.unique h1.1 h2.1
  have ht := h3.2.2.2.1
  have hr := many_range h1.1.many
  have h0 := (order_tab h1.1.many (by omega)).2
  have e : lof (sN base (tracks - 1)) m3 0 = lof (sN base (tracks - 1)) m4 0 := by
    rw [e3, e4]
    refine someL_congr (wt := fun l => (sW base (tracks - 1) 0 l).flatMap (sW base tracks 1)) (wt' := fun l => (sW base (tracks - 1) 0 l).flatMap (sW base tracks 0)) (Nat.pow_pos hr.2.2.2.2.2) (fun l hl k => ?_)
    have h5 := h0 l (by unfold sN at hl; rwa [show (tracks - 1).toNat - 1 = tracks.toNat - 2 by omega] at hl) k
    unfold sW
    rwa [show (tracks - 1).toNat = tracks.toNat - 1 by omega]
  have h6 := h3.can
  rw [e] at h6
  exact h6.unique h4.can
theorem or_eq {base tracks base' tracks' : Int} {l2 m2 : List (List Int)} {l3 m3 : List Bool} {n n2 n6 n7 n8 : Nat} {T T' T2 T6 T7 T8 T8' : Tab} {p2 p6 p7 q5 q2 q6 q7 q8 : Tab × List Bool} (h5 : BothTo 14 base tracks l2 l3 base' tracks' m2 m3 n T T' q5) (h6 : SomesTo base tracks (II q5.1) q5.2 0 n6 T6 p6 0 q6)
    (h2 : SomesTo base tracks l2 l3 0 n2 T2 p2 0 q2) (h7 : SomesTo base' tracks' m2 m3 0 n7 T7 p7 0 q7) (h8 : BothTo 14 base (tracks - 1) (II q2.1) q2.2 base' (tracks' - 1) (II q7.1) q7.2 n8 T8 T8' q8) : q6 = q8 := by
  obtain ⟨⟨ha, hb, rfl, rfl⟩, hc, hs⟩ := h5
  obtain ⟨⟨ha8, hb8, _, _⟩, hc8, hs8⟩ := h8
  obtain ⟨rfl, rfl⟩ := Ok.unique h2.1 ha
  obtain ⟨rfl, rfl⟩ := Ok.unique h7.1 hb
  obtain ⟨rfl, rfl⟩ := Ok.unique ha8 h2.ok
  obtain ⟨_, rfl⟩ := Ok.unique hb8 h7.ok
  have hok5 : Ok base tracks (II q5.1) q5.2 n7 q5.1 := ⟨ha.many, rfl, hc.wf, hs⟩
  have e6 := h6.lang
  obtain ⟨rfl, rfl⟩ := Ok.unique h6.1 hok5
  have e5 : lof n6 (q5.1, q5.2) 0 = bothL 14 (lof n6 (T2, l3) 0) (lof n6 (T7, m3) 0) := hc.lof (bothL_proper (lang_proper _ _ _ _) (lang_proper _ _ _ _))
  rw [e5, someL_or, ← h2.lang, ← h7.lang] at e6
  have hc6 := h6.can
  rw [e6] at hc6
  exact hc6.unique hc8
set_option maxRecDepth 100000 in
set_option maxHeartbeats 4000000 in
theorem someOrder_calls (base tracks : Int) (A2 : Option Addr) (c2 : Nat) (l2 : List (List Int)) (A3 : Option Addr) (c3 : Nat) (l3 : List Bool) (base' tracks' : Int) (B2 : Option Addr) (d2 : Nat) (m2 : List (List Int)) (B3 : Option Addr) (d3 : Nat) (m3 : List Bool) (W : World) (hC2 : kL.C W A2 l2.length l2) (h2 : l2.length ≤ c2) (hC3 : kB.C W A3 l3.length l3) (h3 : l3.length ≤ c3) (hD2 : kL.C W B2 m2.length m2) (g2 : m2.length ≤ d2) (hD3 : kB.C W B3 m3.length m3) (g3 : m3.length ≤ d3) :
    Calls Try.prog 5 #[.agg #[.int .i64 base, .int .i64 tracks, .slice A2 l2.length c2, .slice A3 l3.length c3], .agg #[.int .i64 base', .int .i64 tracks', .slice B2 m2.length d2, .slice B3 m3.length d3]] W fun e w' => e = .returned (.bool true) ∧ Below W.heap.size W w' := by
  obtain ⟨o1, b1, t1, x1, y1, r1⟩ := some_any base tracks l2 l3 1
  obtain ⟨o2, b2, t2, x2, y2, r2⟩ := some_any base tracks l2 l3 0
  obtain ⟨o3, b3, t3, x3, y3, r3⟩ := some_any b1 t1 x1 y1 0
  obtain ⟨o4, b4, t4, x4, y4, r4⟩ := some_any b2 t2 x2 y2 0
  obtain ⟨o5, b5, t5, x5, y5, r5⟩ := both_any 14 (.inl rfl) base tracks l2 l3 base' tracks' m2 m3
  obtain ⟨o6, b6, t6, x6, y6, r6⟩ := some_any b5 t5 x5 y5 0
  obtain ⟨o7, b7, t7, x7, y7, r7⟩ := some_any base' tracks' m2 m3 0
  obtain ⟨o8, b8, t8, x8, y8, r8⟩ := both_any 14 (.inl rfl) b2 t2 x2 y2 b7 t7 x7 y7
  obtain ⟨ka, ra, hka, hra⟩ := autos_spec b3 t3 x3 y3 b4 t4 x4 y4 r3.size.1 r3.size.2.1 r3.size.2.2
  obtain ⟨kb, rb, hkb, hrb⟩ := autos_spec b6 t6 x6 y6 b8 t8 x8 y8 r6.size.1 r6.size.2.1 r6.size.2.2
  have HRA := Aside0.mk (show o1 = true → o2 = true → o3 = true → o4 = true → ra = true from fun h1 h2 h3 h4 => by
    obtain ⟨rfl, rfl, _, _, _, tr1, _, s1, rfl, rfl⟩ := r1.yes h1
    obtain ⟨rfl, rfl, _, _, _, tr2, _, s2, rfl, rfl⟩ := r2.yes h2
    obtain ⟨rfl, rfl, _, _, _, tr3, _, s3, rfl, rfl⟩ := r3.yes h3
    obtain ⟨rfl, rfl, _, _, _, tr4, _, s4, rfl, rfl⟩ := r4.yes h4
    obtain rfl : tr1 = 1 := by have := s1.2.2.1; omega
    obtain rfl : tr2 = 0 := by have := s2.2.2.1; omega
    obtain rfl : tr3 = 0 := by have := s3.2.2.1; omega
    obtain rfl : tr4 = 0 := by have := s4.2.2.1; omega
    obtain rfl := order_eq s1 s2 s3 s4
    exact hra.2 ⟨rfl, rfl, rfl, rfl⟩)
  have HRB := Aside0.mk (show o5 = true → o6 = true → o2 = true → o7 = true → o8 = true → rb = true from fun h1 h2 h3 h4 h5 => by
    obtain ⟨rfl, rfl, _, _, _, _, s5, rfl, rfl⟩ := r5.yes h1
    obtain ⟨rfl, rfl, _, _, _, tr6, _, s6, rfl, rfl⟩ := r6.yes h2
    obtain ⟨rfl, rfl, _, _, _, tr2, _, s2, rfl, rfl⟩ := r2.yes h3
    obtain ⟨rfl, rfl, _, _, _, tr7, _, s7, rfl, rfl⟩ := r7.yes h4
    obtain ⟨rfl, rfl, _, _, _, _, s8, rfl, rfl⟩ := r8.yes h5
    obtain rfl : tr2 = 0 := by have := s2.2.2.1; omega
    obtain rfl : tr6 = 0 := by have := s6.2.2.1; omega
    obtain rfl : tr7 = 0 := by have := s7.2.2.1; omega
    obtain rfl := or_eq s5 s6 s2 s7 s8
    exact hrb.2 ⟨rfl, rfl, rfl, rfl⟩)
  have HKA := Aside0.mk hka
  have HKB := Aside0.mk hkb
  have R1 := Aside0.mk r1
  have R2 := Aside0.mk r2
  have R3 := Aside0.mk r3
  have R4 := Aside0.mk r4
  have R5 := Aside0.mk r5
  have R6 := Aside0.mk r6
  have R7 := Aside0.mk r7
  have R8 := Aside0.mk r8
  have HC2 := Aside0.mk hC2
  have HC3 := Aside0.mk hC3
  have H2 := Aside0.mk h2
  have H3 := Aside0.mk h3
  have HD2 := Aside0.mk hD2
  have HD3 := Aside0.mk hD3
  have G2 := Aside0.mk g2
  have G3 := Aside0.mk g3
  clear hC2 hC3 h2 h3 hD2 hD3 g2 g3 hka hkb hra hrb r1 r2 r3 r4 r5 r6 r7 r8
  have HM := Mem.start W
  go_enter Try.func5, Try.ntmps5
  go_upto_region 6 with (first
    | ((with_reducible refine gate_dst (N := 2) rfl ?_); refine box_event ?hg (N := 2) ?hd (cs := #[.int .i64 base, .int .i64 tracks, .slice A2 l2.length c2, .slice A3 l3.length c3]) (t := 25) ?hr ?_; (case hd => rfl); (case hg => rfl); (case hr => first | (go_simp; done) | (go_simp; rfl)); intro q2 hg1 wb hb1 hbel; have HM1 := HM.blk_ hg1 hb1 hbel; clear HM hg1 hb1 hbel)
    | ((with_reducible refine gate_dst (N := 3) rfl ?_); refine box_event ?hg (N := 3) ?hd (cs := #[.int .i64 base', .int .i64 tracks', .slice B2 m2.length d2, .slice B3 m3.length d3]) (t := 25) ?hr ?_; (case hd => rfl); (case hg => rfl); (case hr => first | (go_simp; done) | (go_simp; rfl)); intro q3 hg1 wb hb1 hbel; have HM2 := HM1.blk_ hg1 hb1 hbel; clear HM1 hg1 hb1 hbel)
    | (go_at_call 13; (refine (same_calls _).mono ?_; rintro e w2 ⟨v2, v3, rfl, hr2, hr3, hb⟩; obtain ⟨Aa, ca, rfl⟩ := Kd.R_slice hr2; obtain ⟨Ab, cb, rfl⟩ := Kd.R_slice hr3; have HM3 := HM2.rows2 hb hr2 hr3; clear HM2 hb hr2 hr3))
    | (go_at_call 15; (have hq := HM3.two_ (i := 0) rfl; refine (sets_calls Aa ca Ab cb _ (Kd.R_reads' hq.1).2.2 (Kd.R_reads' hq.1).2.1 (Kd.R_reads' hq.2).2.2 (Kd.R_reads' hq.2).2.1).mono ?_; rintro e w3 ⟨rfl, hb⟩; have HM4 := HM3.grow hb; clear HM3 hb hq))
    | ((with_reducible refine gate_dst (N := 32) rfl ?_); (refine HM4.loadAll 2 rfl 25 (.tmp 2) rfl _ rfl Try.underlying25 rfl (by exact infoA4) rfl ?_))
    | (go_at_call 12; (first | (have hz := HM4.below; refine Calls.mono (R1.out.calls A2 c2 A3 c3 _ (Kd.C_below HC2.out HM4.below) H2.out (Kd.C_below HC3.out HM4.below) H3.out) ?_; clear hz; rintro e wc ⟨e1, v2, v3, hr, rfl, hr2, hr3, hb⟩; have HE1 := Aside0.mk hr; obtain ⟨Ax1, cx1, rfl⟩ := Kd.R_slice hr2; obtain ⟨Ay1, cy1, rfl⟩ := Kd.R_slice hr3; have HM5 := HM4.rows2 hb hr2 hr3; clear HM4 hb hr2 hr3 hr) | (have hz := HM7.below; refine Calls.mono (R2.out.calls A2 c2 A3 c3 _ (Kd.C_below HC2.out HM7.below) H2.out (Kd.C_below HC3.out HM7.below) H3.out) ?_; clear hz; rintro e wc ⟨e2, v2, v3, hr, rfl, hr2, hr3, hb⟩; have HE2 := Aside0.mk hr; obtain ⟨Ax2, cx2, rfl⟩ := Kd.R_slice hr2; obtain ⟨Ay2, cy2, rfl⟩ := Kd.R_slice hr3; have HM8 := HM7.rows2 hb hr2 hr3; clear HM7 hb hr2 hr3 hr)))
    | ((with_reducible refine gate_dst (N := 7) rfl ?_); refine box_event ?hg (N := 7) ?hd (cs := #[.int .i64 0, .int .i64 0, .slice none 0 0, .slice none 0 0]) (t := 25) ?hr ?_; (case hd => rfl); (case hg => rfl); (case hr => first | (go_simp; done) | (go_simp; rfl)); intro q7 hg1 wb hb1 hbel; have HM6 := HM5.blk_ hg1 hb1 hbel; clear HM5 hg1 hb1 hbel)
    | ((with_reducible refine gate_store (t := 25) (p := 7) rfl ?_); (refine HM6.storeAll 0 rfl rfl 25 (.tmp 7) _ rfl (us := #[.int .i64 b1, .int .i64 t1, .slice Ax1 x1.length cx1, .slice Ay1 y1.length cy1]) rfl rfl (one4 rfl rfl rfl rfl) (by exact infoA4) rfl rfl ?_; intro ws HM7; clear HM6))
    | ((with_reducible refine gate_dst (N := 37) rfl ?_); (refine HM7.loadAll 4 rfl 25 (.tmp 2) rfl _ rfl Try.underlying25 rfl (by exact infoA4) rfl ?_))
    | ((with_reducible refine gate_dst (N := 9) rfl ?_); refine box_event ?hg (N := 9) ?hd (cs := #[.int .i64 0, .int .i64 0, .slice none 0 0, .slice none 0 0]) (t := 25) ?hr ?_; (case hd => rfl); (case hg => rfl); (case hr => first | (go_simp; done) | (go_simp; rfl)); intro q9 hg1 wb hb1 hbel; have HM9 := HM8.blk_ hg1 hb1 hbel; clear HM8 hg1 hb1 hbel)
    | ((with_reducible refine gate_store (t := 25) (p := 9) rfl ?_); (refine HM9.storeAll 0 rfl rfl 25 (.tmp 9) _ rfl (us := #[.int .i64 b2, .int .i64 t2, .slice Ax2 x2.length cx2, .slice Ay2 y2.length cy2]) rfl rfl (one4 rfl rfl rfl rfl) (by exact infoA4) rfl rfl ?_; intro ws HM10; clear HM9)))
  go_cut [46] (fun v46 wc => v46 = .bool (o1 && o2) ∧ Mem W.heap.size (fun _ => False) W wc [blk q9 #[.int .i64 b2, .int .i64 t2, .slice Ax2 x2.length cx2, .slice Ay2 y2.length cy2] 25, two (row kL 26 (.slice Ax2 x2.length cx2) x2) (row kB 4 (.slice Ay2 y2.length cy2) y2), blk q7 #[.int .i64 b1, .int .i64 t1, .slice Ax1 x1.length cx1, .slice Ay1 y1.length cy1] 25, two (row kL 26 (.slice Ax1 x1.length cx1) x1) (row kB 4 (.slice Ay1 y1.length cy1) y1), blk q3 #[.int .i64 base', .int .i64 tracks', .slice B2 m2.length d2, .slice B3 m3.length d3] 25, blk q2 #[.int .i64 base, .int .i64 tracks, .slice A2 l2.length c2, .slice A3 l3.length c3] 25])
  case first =>
    cases o1 <;> cases o2
    all_goals
      (first | (obtain rfl : e1 = none := HE1.out.2 rfl) | (obtain ⟨s1, rfl⟩ := err_some HE1.out))
      (first | (obtain rfl : e2 = none := HE2.out.2 rfl) | (obtain ⟨s2, rfl⟩ := err_some HE2.out))
      simp only [errW_none, errW_some]
      go_wp2
      go_meet
      exact ⟨rfl, HM10.drop 4⟩
  case rest =>
  clear HM10
  obtain ⟨rfl, HM10⟩ := hcut
  go_upto_if 46 with fail
  go_cut [] (fun wc => Mem W.heap.size (fun _ => False) W wc [blk q3 #[.int .i64 base', .int .i64 tracks', .slice B2 m2.length d2, .slice B3 m3.length d3] 25, blk q2 #[.int .i64 base, .int .i64 tracks, .slice A2 l2.length c2, .slice A3 l3.length c3] 25])
  case first =>
    by_cases h12 : o1 = true ∧ o2 = true
    · obtain ⟨rfl, rfl⟩ := h12
      simp only [Bool.and_self]
      by_cases h34 : o3 = true ∧ o4 = true
      · obtain ⟨rfl, rfl⟩ := h34
        obtain rfl : ra = true := HRA.out rfl rfl rfl rfl
        go_wp2_with (first
          | (go_at_call 12; (first | (have hq := HM10.two_ (i := 3) rfl; refine Calls.mono (R3.out.calls Ax1 cx1 Ay1 cy1 _ (Kd.R_reads' hq.1).2.2 (Kd.R_reads' hq.1).2.1 (Kd.R_reads' hq.2).2.2 (Kd.R_reads' hq.2).2.1) ?_; clear hq; rintro e wc ⟨r, v2, v3, hr, rfl, hr2, hr3, hb⟩; (first | (obtain rfl : r = none := hr.2 rfl; simp only [errW_none]) | (obtain ⟨r0, rfl⟩ := err_some hr; simp only [errW_some])); obtain ⟨Ax3, cx3, rfl⟩ := Kd.R_slice hr2; obtain ⟨Ay3, cy3, rfl⟩ := Kd.R_slice hr3; have HM11 := HM10.rows2 hb hr2 hr3; clear HM10 hb hr2 hr3 hr) | (have hq := HM12.two_ (i := 2) rfl; refine Calls.mono (R4.out.calls Ax2 cx2 Ay2 cy2 _ (Kd.R_reads' hq.1).2.2 (Kd.R_reads' hq.1).2.1 (Kd.R_reads' hq.2).2.2 (Kd.R_reads' hq.2).2.1) ?_; clear hq; rintro e wc ⟨r, v2, v3, hr, rfl, hr2, hr3, hb⟩; (first | (obtain rfl : r = none := hr.2 rfl; simp only [errW_none]) | (obtain ⟨r0, rfl⟩ := err_some hr; simp only [errW_some])); obtain ⟨Ax4, cx4, rfl⟩ := Kd.R_slice hr2; obtain ⟨Ay4, cy4, rfl⟩ := Kd.R_slice hr3; have HM13 := HM12.rows2 hb hr2 hr3; clear HM12 hb hr2 hr3 hr)))
          | ((with_reducible refine gate_dst (N := 48) rfl ?_); (refine HM10.loadAll 2 rfl 25 (.tmp 7) rfl _ rfl Try.underlying25 rfl (by exact infoA4) rfl ?_))
          | ((with_reducible refine gate_store (t := 25) (p := 7) rfl ?_); (refine HM11.storeAll 3 rfl rfl 25 (.tmp 7) _ rfl (us := #[.int .i64 b3, .int .i64 t3, .slice Ax3 x3.length cx3, .slice Ay3 y3.length cy3]) rfl rfl (one4 rfl rfl rfl rfl) (by exact infoA4) rfl rfl ?_; intro ws HM12; clear HM11))
          | ((with_reducible refine gate_dst (N := 53) rfl ?_); (refine HM12.loadAll 1 rfl 25 (.tmp 9) rfl _ rfl Try.underlying25 rfl (by exact infoA4) rfl ?_))
          | ((with_reducible refine gate_store (t := 25) (p := 9) rfl ?_); (refine HM13.storeAll 2 rfl rfl 25 (.tmp 9) _ rfl (us := #[.int .i64 b4, .int .i64 t4, .slice Ax4 x4.length cx4, .slice Ay4 y4.length cy4]) rfl rfl (one4 rfl rfl rfl rfl) (by exact infoA4) rfl rfl ?_; intro ws HM14; clear HM13))
          | ((with_reducible refine gate_dst (N := 57) rfl ?_); (refine HM14.loadAll 4 rfl 25 (.tmp 7) rfl _ rfl Try.underlying25 rfl (by exact infoA4) rfl ?_))
          | ((with_reducible refine gate_dst (N := 58) rfl ?_); (refine HM14.loadAll 2 rfl 25 (.tmp 9) rfl _ rfl Try.underlying25 rfl (by exact infoA4) rfl ?_))
          | (go_at_call 11; (have hq := HM14.two_ (i := 1) rfl; have hp := HM14.two_ (i := 0) rfl; refine (Go.Proofs.Ytlffephcbfdknaa.PSame.filbertsame_Autos.calls ka b3 t3 Ax3 cx3 x3 Ay3 cy3 y3 b4 t4 Ax4 cx4 x4 Ay4 cy4 y4 _ _ (Kd.R_reads' hq.1).2.2 (Kd.R_reads' hq.1).2.1 (Kd.R_reads' hq.2).2.2 (Kd.R_reads' hq.2).2.1 (Kd.R_reads' hp.1).2.2 (Kd.R_reads' hp.1).2.1 (Kd.R_reads' hp.2).2.2 (Kd.R_reads' hp.2).2.1 HKA.out).mono ?_; rintro e w22 ⟨rfl, hb⟩; have HM15 := HM14.grow hb; clear HM14 hb hq hp)))
        go_meet
        exact Mem.behind (L1 := [_, _, _, _, _, _]) HM15
      · cases o3 <;> cases o4 <;> first | (exact absurd ⟨rfl, rfl⟩ h34) | skip
        all_goals
          go_wp2_with (first
            | (go_at_call 12; (first | (have hq := HM10.two_ (i := 3) rfl; refine Calls.mono (R3.out.calls Ax1 cx1 Ay1 cy1 _ (Kd.R_reads' hq.1).2.2 (Kd.R_reads' hq.1).2.1 (Kd.R_reads' hq.2).2.2 (Kd.R_reads' hq.2).2.1) ?_; clear hq; rintro e wc ⟨r, v2, v3, hr, rfl, hr2, hr3, hb⟩; (first | (obtain rfl : r = none := hr.2 rfl; simp only [errW_none]) | (obtain ⟨r0, rfl⟩ := err_some hr; simp only [errW_some])); obtain ⟨Ax3, cx3, rfl⟩ := Kd.R_slice hr2; obtain ⟨Ay3, cy3, rfl⟩ := Kd.R_slice hr3; have HM11 := HM10.rows2 hb hr2 hr3; clear HM10 hb hr2 hr3 hr) | (have hq := HM12.two_ (i := 2) rfl; refine Calls.mono (R4.out.calls Ax2 cx2 Ay2 cy2 _ (Kd.R_reads' hq.1).2.2 (Kd.R_reads' hq.1).2.1 (Kd.R_reads' hq.2).2.2 (Kd.R_reads' hq.2).2.1) ?_; clear hq; rintro e wc ⟨r, v2, v3, hr, rfl, hr2, hr3, hb⟩; (first | (obtain rfl : r = none := hr.2 rfl; simp only [errW_none]) | (obtain ⟨r0, rfl⟩ := err_some hr; simp only [errW_some])); obtain ⟨Ax4, cx4, rfl⟩ := Kd.R_slice hr2; obtain ⟨Ay4, cy4, rfl⟩ := Kd.R_slice hr3; have HM13 := HM12.rows2 hb hr2 hr3; clear HM12 hb hr2 hr3 hr)))
            | ((with_reducible refine gate_dst (N := 48) rfl ?_); (refine HM10.loadAll 2 rfl 25 (.tmp 7) rfl _ rfl Try.underlying25 rfl (by exact infoA4) rfl ?_))
            | ((with_reducible refine gate_store (t := 25) (p := 7) rfl ?_); (refine HM11.storeAll 3 rfl rfl 25 (.tmp 7) _ rfl (us := #[.int .i64 b3, .int .i64 t3, .slice Ax3 x3.length cx3, .slice Ay3 y3.length cy3]) rfl rfl (one4 rfl rfl rfl rfl) (by exact infoA4) rfl rfl ?_; intro ws HM12; clear HM11))
            | ((with_reducible refine gate_dst (N := 53) rfl ?_); (refine HM12.loadAll 1 rfl 25 (.tmp 9) rfl _ rfl Try.underlying25 rfl (by exact infoA4) rfl ?_))
            | ((with_reducible refine gate_store (t := 25) (p := 9) rfl ?_); (refine HM13.storeAll 2 rfl rfl 25 (.tmp 9) _ rfl (us := #[.int .i64 b4, .int .i64 t4, .slice Ax4 x4.length cx4, .slice Ay4 y4.length cy4]) rfl rfl (one4 rfl rfl rfl rfl) (by exact infoA4) rfl rfl ?_; intro ws HM14; clear HM13))
            | ((with_reducible refine gate_dst (N := 57) rfl ?_); (refine HM14.loadAll 4 rfl 25 (.tmp 7) rfl _ rfl Try.underlying25 rfl (by exact infoA4) rfl ?_))
            | ((with_reducible refine gate_dst (N := 58) rfl ?_); (refine HM14.loadAll 2 rfl 25 (.tmp 9) rfl _ rfl Try.underlying25 rfl (by exact infoA4) rfl ?_))
            | (go_at_call 11; (have hq := HM14.two_ (i := 1) rfl; have hp := HM14.two_ (i := 0) rfl; refine (Go.Proofs.Ytlffephcbfdknaa.PSame.filbertsame_Autos.calls ka b3 t3 Ax3 cx3 x3 Ay3 cy3 y3 b4 t4 Ax4 cx4 x4 Ay4 cy4 y4 _ _ (Kd.R_reads' hq.1).2.2 (Kd.R_reads' hq.1).2.1 (Kd.R_reads' hq.2).2.2 (Kd.R_reads' hq.2).2.1 (Kd.R_reads' hp.1).2.2 (Kd.R_reads' hp.1).2.1 (Kd.R_reads' hp.2).2.2 (Kd.R_reads' hp.2).2.1 HKA.out).mono ?_; rintro e w22 ⟨rfl, hb⟩; have HM15 := HM14.grow hb; clear HM14 hb hq hp)))
          go_meet
          exact Mem.behind (L1 := [_, _, _, _, _, _]) HM15
    · cases o1 <;> cases o2 <;> first | (exact absurd ⟨rfl, rfl⟩ h12) | skip
      all_goals
        simp only [Bool.and_self, Bool.and_false, Bool.false_and]
        go_wp2
        go_meet
        exact Mem.behind (L1 := [_, _, _, _]) HM10
  case rest =>
    obtain ⟨w0', rfl⟩ : ∃ x : World, x = wc := ⟨_, rfl⟩
    have HM := hcut
    clear hcut HM10
    by_cases h5 : o5 = true
    · subst h5
      by_cases h627 : o6 = true ∧ o2 = true ∧ o7 = true
      · obtain ⟨rfl, rfl, rfl⟩ := h627
        by_cases h8 : o8 = true
        · subst h8
          obtain rfl : rb = true := HRB.out rfl rfl rfl rfl rfl
          go_wp2_with (first
            | ((with_reducible refine gate_dst (N := 71) rfl ?_); (refine HM.loadAll 1 rfl 25 (.tmp 2) rfl _ rfl Try.underlying25 rfl (by exact infoA4) rfl ?_))
            | ((with_reducible refine gate_dst (N := 72) rfl ?_); (refine HM.loadAll 0 rfl 25 (.tmp 3) rfl _ rfl Try.underlying25 rfl (by exact infoA4) rfl ?_))
            | (go_at_call 16; (first | (have hz := HM.below; refine Calls.mono (R5.out.calls A2 c2 A3 c3 B2 d2 B3 d3 _ (Kd.C_below HC2.out HM.below) H2.out (Kd.C_below HC3.out HM.below) H3.out (Kd.C_below HD2.out HM.below) G2.out (Kd.C_below HD3.out HM.below) G3.out) ?_; clear hz; rintro e wc ⟨r, v2, v3, hr, rfl, hr2, hr3, hb⟩; (first | (obtain rfl : r = none := hr.2 rfl; simp only [errW_none]) | (obtain ⟨r0, rfl⟩ := err_some hr; simp only [errW_some])); obtain ⟨Ax5, cx5, rfl⟩ := Kd.R_slice hr2; obtain ⟨Ay5, cy5, rfl⟩ := Kd.R_slice hr3; have HM1 := HM.rows2 hb hr2 hr3; clear HM hb hr2 hr3 hr) | (have hq := HM13.two_ (i := 3) rfl; have hp := HM13.two_ (i := 1) rfl; refine Calls.mono (R8.out.calls Ax2 cx2 Ay2 cy2 Ax7 cx7 Ay7 cy7 _ (Kd.R_reads' hq.1).2.2 (Kd.R_reads' hq.1).2.1 (Kd.R_reads' hq.2).2.2 (Kd.R_reads' hq.2).2.1 (Kd.R_reads' hp.1).2.2 (Kd.R_reads' hp.1).2.1 (Kd.R_reads' hp.2).2.2 (Kd.R_reads' hp.2).2.1) ?_; clear hq hp; rintro e wc ⟨r, v2, v3, hr, rfl, hr2, hr3, hb⟩; (first | (obtain rfl : r = none := hr.2 rfl; simp only [errW_none]) | (obtain ⟨r0, rfl⟩ := err_some hr; simp only [errW_some])); obtain ⟨Ax8, cx8, rfl⟩ := Kd.R_slice hr2; obtain ⟨Ay8, cy8, rfl⟩ := Kd.R_slice hr3; have HM14 := HM13.rows2 hb hr2 hr3; clear HM13 hb hr2 hr3 hr)))
            | ((with_reducible refine gate_dst (N := 12) rfl ?_); refine box_event ?hg (N := 12) ?hd (cs := #[.int .i64 0, .int .i64 0, .slice none 0 0, .slice none 0 0]) (t := 25) ?hr ?_; (case hd => rfl); (case hg => rfl); (case hr => first | (go_simp; done) | (go_simp; rfl)); intro q12 hg1 wb hb1 hbel; have HM2 := HM1.blk_ hg1 hb1 hbel; clear HM1 hg1 hb1 hbel)
            | ((with_reducible refine gate_store (t := 25) (p := 12) rfl ?_); (refine HM2.storeAll 0 rfl rfl 25 (.tmp 12) _ rfl (us := #[.int .i64 b5, .int .i64 t5, .slice Ax5 x5.length cx5, .slice Ay5 y5.length cy5]) rfl rfl (one4 rfl rfl rfl rfl) (by exact infoA4) rfl rfl ?_; intro ws HM3; clear HM2))
            | ((with_reducible refine gate_dst (N := 79) rfl ?_); (refine HM3.loadAll 0 rfl 25 (.tmp 12) rfl _ rfl Try.underlying25 rfl (by exact infoA4) rfl ?_))
            | (go_at_call 12; (first | (have hq := HM3.two_ (i := 1) rfl; refine Calls.mono (R6.out.calls Ax5 cx5 Ay5 cy5 _ (Kd.R_reads' hq.1).2.2 (Kd.R_reads' hq.1).2.1 (Kd.R_reads' hq.2).2.2 (Kd.R_reads' hq.2).2.1) ?_; clear hq; rintro e wc ⟨r, v2, v3, hr, rfl, hr2, hr3, hb⟩; (first | (obtain rfl : r = none := hr.2 rfl; simp only [errW_none]) | (obtain ⟨r0, rfl⟩ := err_some hr; simp only [errW_some])); obtain ⟨Ax6, cx6, rfl⟩ := Kd.R_slice hr2; obtain ⟨Ay6, cy6, rfl⟩ := Kd.R_slice hr3; have HM4 := HM3.rows2 hb hr2 hr3; clear HM3 hb hr2 hr3 hr) | (have hz := HM6.below; refine Calls.mono (R2.out.calls A2 c2 A3 c3 _ (Kd.C_below HC2.out HM6.below) H2.out (Kd.C_below HC3.out HM6.below) H3.out) ?_; clear hz; rintro e wc ⟨r, v2, v3, hr, rfl, hr2, hr3, hb⟩; (first | (obtain rfl : r = none := hr.2 rfl; simp only [errW_none]) | (obtain ⟨r0, rfl⟩ := err_some hr; simp only [errW_some])); obtain ⟨Ax2, cx2, rfl⟩ := Kd.R_slice hr2; obtain ⟨Ay2, cy2, rfl⟩ := Kd.R_slice hr3; have HM7 := HM6.rows2 hb hr2 hr3; clear HM6 hb hr2 hr3 hr) | (have hz := HM9.below; refine Calls.mono (R7.out.calls B2 d2 B3 d3 _ (Kd.C_below HD2.out HM9.below) G2.out (Kd.C_below HD3.out HM9.below) G3.out) ?_; clear hz; rintro e wc ⟨r, v2, v3, hr, rfl, hr2, hr3, hb⟩; (first | (obtain rfl : r = none := hr.2 rfl; simp only [errW_none]) | (obtain ⟨r0, rfl⟩ := err_some hr; simp only [errW_some])); obtain ⟨Ax7, cx7, rfl⟩ := Kd.R_slice hr2; obtain ⟨Ay7, cy7, rfl⟩ := Kd.R_slice hr3; have HM10 := HM9.rows2 hb hr2 hr3; clear HM9 hb hr2 hr3 hr)))
            | ((with_reducible refine gate_dst (N := 14) rfl ?_); refine box_event ?hg (N := 14) ?hd (cs := #[.int .i64 0, .int .i64 0, .slice none 0 0, .slice none 0 0]) (t := 25) ?hr ?_; (case hd => rfl); (case hg => rfl); (case hr => first | (go_simp; done) | (go_simp; rfl)); intro q14 hg1 wb hb1 hbel; have HM5 := HM4.blk_ hg1 hb1 hbel; clear HM4 hg1 hb1 hbel)
            | ((with_reducible refine gate_store (t := 25) (p := 14) rfl ?_); (refine HM5.storeAll 0 rfl rfl 25 (.tmp 14) _ rfl (us := #[.int .i64 b6, .int .i64 t6, .slice Ax6 x6.length cx6, .slice Ay6 y6.length cy6]) rfl rfl (one4 rfl rfl rfl rfl) (by exact infoA4) rfl rfl ?_; intro ws HM6; clear HM5))
            | ((with_reducible refine gate_dst (N := 84) rfl ?_); (refine HM6.loadAll 5 rfl 25 (.tmp 2) rfl _ rfl Try.underlying25 rfl (by exact infoA4) rfl ?_))
            | ((with_reducible refine gate_dst (N := 15) rfl ?_); refine box_event ?hg (N := 15) ?hd (cs := #[.int .i64 0, .int .i64 0, .slice none 0 0, .slice none 0 0]) (t := 25) ?hr ?_; (case hd => rfl); (case hg => rfl); (case hr => first | (go_simp; done) | (go_simp; rfl)); intro q15 hg1 wb hb1 hbel; have HM8 := HM7.blk_ hg1 hb1 hbel; clear HM7 hg1 hb1 hbel)
            | ((with_reducible refine gate_store (t := 25) (p := 15) rfl ?_); (refine HM8.storeAll 0 rfl rfl 25 (.tmp 15) _ rfl (us := #[.int .i64 b2, .int .i64 t2, .slice Ax2 x2.length cx2, .slice Ay2 y2.length cy2]) rfl rfl (one4 rfl rfl rfl rfl) (by exact infoA4) rfl rfl ?_; intro ws HM9; clear HM8))
            | ((with_reducible refine gate_dst (N := 89) rfl ?_); (refine HM9.loadAll 6 rfl 25 (.tmp 3) rfl _ rfl Try.underlying25 rfl (by exact infoA4) rfl ?_))
            | ((with_reducible refine gate_dst (N := 16) rfl ?_); refine box_event ?hg (N := 16) ?hd (cs := #[.int .i64 0, .int .i64 0, .slice none 0 0, .slice none 0 0]) (t := 25) ?hr ?_; (case hd => rfl); (case hg => rfl); (case hr => first | (go_simp; done) | (go_simp; rfl)); intro q16 hg1 wb hb1 hbel; have HM11 := HM10.blk_ hg1 hb1 hbel; clear HM10 hg1 hb1 hbel)
            | ((with_reducible refine gate_store (t := 25) (p := 16) rfl ?_); (refine HM11.storeAll 0 rfl rfl 25 (.tmp 16) _ rfl (us := #[.int .i64 b7, .int .i64 t7, .slice Ax7 x7.length cx7, .slice Ay7 y7.length cy7]) rfl rfl (one4 rfl rfl rfl rfl) (by exact infoA4) rfl rfl ?_; intro ws HM13; clear HM11))
            | ((with_reducible refine gate_dst (N := 104) rfl ?_); (refine HM13.loadAll 2 rfl 25 (.tmp 15) rfl _ rfl Try.underlying25 rfl (by exact infoA4) rfl ?_))
            | ((with_reducible refine gate_dst (N := 105) rfl ?_); (refine HM13.loadAll 0 rfl 25 (.tmp 16) rfl _ rfl Try.underlying25 rfl (by exact infoA4) rfl ?_))
            | ((with_reducible refine gate_dst (N := 17) rfl ?_); refine box_event ?hg (N := 17) ?hd (cs := #[.int .i64 0, .int .i64 0, .slice none 0 0, .slice none 0 0]) (t := 25) ?hr ?_; (case hd => rfl); (case hg => rfl); (case hr => first | (go_simp; done) | (go_simp; rfl)); intro q17 hg1 wb hb1 hbel; have HM15 := HM14.blk_ hg1 hb1 hbel; clear HM14 hg1 hb1 hbel)
            | ((with_reducible refine gate_store (t := 25) (p := 17) rfl ?_); (refine HM15.storeAll 0 rfl rfl 25 (.tmp 17) _ rfl (us := #[.int .i64 b8, .int .i64 t8, .slice Ax8 x8.length cx8, .slice Ay8 y8.length cy8]) rfl rfl (one4 rfl rfl rfl rfl) (by exact infoA4) rfl rfl ?_; intro ws HM16; clear HM15))
            | ((with_reducible refine gate_dst (N := 109) rfl ?_); (refine HM16.loadAll 6 rfl 25 (.tmp 14) rfl _ rfl Try.underlying25 rfl (by exact infoA4) rfl ?_))
            | ((with_reducible refine gate_dst (N := 110) rfl ?_); (refine HM16.loadAll 0 rfl 25 (.tmp 17) rfl _ rfl Try.underlying25 rfl (by exact infoA4) rfl ?_))
            | (go_at_call 11; (have hq := HM16.two_ (i := 7) rfl; have hp := HM16.two_ (i := 1) rfl; refine (Go.Proofs.Ytlffephcbfdknaa.PSame.filbertsame_Autos.calls kb b6 t6 Ax6 cx6 x6 Ay6 cy6 y6 b8 t8 Ax8 cx8 x8 Ay8 cy8 y8 _ _ (Kd.R_reads' hq.1).2.2 (Kd.R_reads' hq.1).2.1 (Kd.R_reads' hq.2).2.2 (Kd.R_reads' hq.2).2.1 (Kd.R_reads' hp.1).2.2 (Kd.R_reads' hp.1).2.1 (Kd.R_reads' hp.2).2.2 (Kd.R_reads' hp.2).2.1 HKB.out).mono ?_; rintro e w22 ⟨rfl, hb⟩; have HM17 := HM16.grow hb; clear HM16 hb hq hp)))
          refine bodyPost_ret (results_single rfl (.tmp .nil)) (by rfl) ⟨rfl, HM17.below⟩
        · obtain rfl : o8 = false := by cases o8 <;> simp_all
          go_wp2_with (first
            | ((with_reducible refine gate_dst (N := 71) rfl ?_); (refine HM.loadAll 1 rfl 25 (.tmp 2) rfl _ rfl Try.underlying25 rfl (by exact infoA4) rfl ?_))
            | ((with_reducible refine gate_dst (N := 72) rfl ?_); (refine HM.loadAll 0 rfl 25 (.tmp 3) rfl _ rfl Try.underlying25 rfl (by exact infoA4) rfl ?_))
            | (go_at_call 16; (first | (have hz := HM.below; refine Calls.mono (R5.out.calls A2 c2 A3 c3 B2 d2 B3 d3 _ (Kd.C_below HC2.out HM.below) H2.out (Kd.C_below HC3.out HM.below) H3.out (Kd.C_below HD2.out HM.below) G2.out (Kd.C_below HD3.out HM.below) G3.out) ?_; clear hz; rintro e wc ⟨r, v2, v3, hr, rfl, hr2, hr3, hb⟩; (first | (obtain rfl : r = none := hr.2 rfl; simp only [errW_none]) | (obtain ⟨r0, rfl⟩ := err_some hr; simp only [errW_some])); obtain ⟨Ax5, cx5, rfl⟩ := Kd.R_slice hr2; obtain ⟨Ay5, cy5, rfl⟩ := Kd.R_slice hr3; have HM1 := HM.rows2 hb hr2 hr3; clear HM hb hr2 hr3 hr) | (have hq := HM13.two_ (i := 3) rfl; have hp := HM13.two_ (i := 1) rfl; refine Calls.mono (R8.out.calls Ax2 cx2 Ay2 cy2 Ax7 cx7 Ay7 cy7 _ (Kd.R_reads' hq.1).2.2 (Kd.R_reads' hq.1).2.1 (Kd.R_reads' hq.2).2.2 (Kd.R_reads' hq.2).2.1 (Kd.R_reads' hp.1).2.2 (Kd.R_reads' hp.1).2.1 (Kd.R_reads' hp.2).2.2 (Kd.R_reads' hp.2).2.1) ?_; clear hq hp; rintro e wc ⟨r, v2, v3, hr, rfl, hr2, hr3, hb⟩; (first | (obtain rfl : r = none := hr.2 rfl; simp only [errW_none]) | (obtain ⟨r0, rfl⟩ := err_some hr; simp only [errW_some])); obtain ⟨Ax8, cx8, rfl⟩ := Kd.R_slice hr2; obtain ⟨Ay8, cy8, rfl⟩ := Kd.R_slice hr3; have HM14 := HM13.rows2 hb hr2 hr3; clear HM13 hb hr2 hr3 hr)))
            | ((with_reducible refine gate_dst (N := 12) rfl ?_); refine box_event ?hg (N := 12) ?hd (cs := #[.int .i64 0, .int .i64 0, .slice none 0 0, .slice none 0 0]) (t := 25) ?hr ?_; (case hd => rfl); (case hg => rfl); (case hr => first | (go_simp; done) | (go_simp; rfl)); intro q12 hg1 wb hb1 hbel; have HM2 := HM1.blk_ hg1 hb1 hbel; clear HM1 hg1 hb1 hbel)
            | ((with_reducible refine gate_store (t := 25) (p := 12) rfl ?_); (refine HM2.storeAll 0 rfl rfl 25 (.tmp 12) _ rfl (us := #[.int .i64 b5, .int .i64 t5, .slice Ax5 x5.length cx5, .slice Ay5 y5.length cy5]) rfl rfl (one4 rfl rfl rfl rfl) (by exact infoA4) rfl rfl ?_; intro ws HM3; clear HM2))
            | ((with_reducible refine gate_dst (N := 79) rfl ?_); (refine HM3.loadAll 0 rfl 25 (.tmp 12) rfl _ rfl Try.underlying25 rfl (by exact infoA4) rfl ?_))
            | (go_at_call 12; (first | (have hq := HM3.two_ (i := 1) rfl; refine Calls.mono (R6.out.calls Ax5 cx5 Ay5 cy5 _ (Kd.R_reads' hq.1).2.2 (Kd.R_reads' hq.1).2.1 (Kd.R_reads' hq.2).2.2 (Kd.R_reads' hq.2).2.1) ?_; clear hq; rintro e wc ⟨r, v2, v3, hr, rfl, hr2, hr3, hb⟩; (first | (obtain rfl : r = none := hr.2 rfl; simp only [errW_none]) | (obtain ⟨r0, rfl⟩ := err_some hr; simp only [errW_some])); obtain ⟨Ax6, cx6, rfl⟩ := Kd.R_slice hr2; obtain ⟨Ay6, cy6, rfl⟩ := Kd.R_slice hr3; have HM4 := HM3.rows2 hb hr2 hr3; clear HM3 hb hr2 hr3 hr) | (have hz := HM6.below; refine Calls.mono (R2.out.calls A2 c2 A3 c3 _ (Kd.C_below HC2.out HM6.below) H2.out (Kd.C_below HC3.out HM6.below) H3.out) ?_; clear hz; rintro e wc ⟨r, v2, v3, hr, rfl, hr2, hr3, hb⟩; (first | (obtain rfl : r = none := hr.2 rfl; simp only [errW_none]) | (obtain ⟨r0, rfl⟩ := err_some hr; simp only [errW_some])); obtain ⟨Ax2, cx2, rfl⟩ := Kd.R_slice hr2; obtain ⟨Ay2, cy2, rfl⟩ := Kd.R_slice hr3; have HM7 := HM6.rows2 hb hr2 hr3; clear HM6 hb hr2 hr3 hr) | (have hz := HM9.below; refine Calls.mono (R7.out.calls B2 d2 B3 d3 _ (Kd.C_below HD2.out HM9.below) G2.out (Kd.C_below HD3.out HM9.below) G3.out) ?_; clear hz; rintro e wc ⟨r, v2, v3, hr, rfl, hr2, hr3, hb⟩; (first | (obtain rfl : r = none := hr.2 rfl; simp only [errW_none]) | (obtain ⟨r0, rfl⟩ := err_some hr; simp only [errW_some])); obtain ⟨Ax7, cx7, rfl⟩ := Kd.R_slice hr2; obtain ⟨Ay7, cy7, rfl⟩ := Kd.R_slice hr3; have HM10 := HM9.rows2 hb hr2 hr3; clear HM9 hb hr2 hr3 hr)))
            | ((with_reducible refine gate_dst (N := 14) rfl ?_); refine box_event ?hg (N := 14) ?hd (cs := #[.int .i64 0, .int .i64 0, .slice none 0 0, .slice none 0 0]) (t := 25) ?hr ?_; (case hd => rfl); (case hg => rfl); (case hr => first | (go_simp; done) | (go_simp; rfl)); intro q14 hg1 wb hb1 hbel; have HM5 := HM4.blk_ hg1 hb1 hbel; clear HM4 hg1 hb1 hbel)
            | ((with_reducible refine gate_store (t := 25) (p := 14) rfl ?_); (refine HM5.storeAll 0 rfl rfl 25 (.tmp 14) _ rfl (us := #[.int .i64 b6, .int .i64 t6, .slice Ax6 x6.length cx6, .slice Ay6 y6.length cy6]) rfl rfl (one4 rfl rfl rfl rfl) (by exact infoA4) rfl rfl ?_; intro ws HM6; clear HM5))
            | ((with_reducible refine gate_dst (N := 84) rfl ?_); (refine HM6.loadAll 5 rfl 25 (.tmp 2) rfl _ rfl Try.underlying25 rfl (by exact infoA4) rfl ?_))
            | ((with_reducible refine gate_dst (N := 15) rfl ?_); refine box_event ?hg (N := 15) ?hd (cs := #[.int .i64 0, .int .i64 0, .slice none 0 0, .slice none 0 0]) (t := 25) ?hr ?_; (case hd => rfl); (case hg => rfl); (case hr => first | (go_simp; done) | (go_simp; rfl)); intro q15 hg1 wb hb1 hbel; have HM8 := HM7.blk_ hg1 hb1 hbel; clear HM7 hg1 hb1 hbel)
            | ((with_reducible refine gate_store (t := 25) (p := 15) rfl ?_); (refine HM8.storeAll 0 rfl rfl 25 (.tmp 15) _ rfl (us := #[.int .i64 b2, .int .i64 t2, .slice Ax2 x2.length cx2, .slice Ay2 y2.length cy2]) rfl rfl (one4 rfl rfl rfl rfl) (by exact infoA4) rfl rfl ?_; intro ws HM9; clear HM8))
            | ((with_reducible refine gate_dst (N := 89) rfl ?_); (refine HM9.loadAll 6 rfl 25 (.tmp 3) rfl _ rfl Try.underlying25 rfl (by exact infoA4) rfl ?_))
            | ((with_reducible refine gate_dst (N := 16) rfl ?_); refine box_event ?hg (N := 16) ?hd (cs := #[.int .i64 0, .int .i64 0, .slice none 0 0, .slice none 0 0]) (t := 25) ?hr ?_; (case hd => rfl); (case hg => rfl); (case hr => first | (go_simp; done) | (go_simp; rfl)); intro q16 hg1 wb hb1 hbel; have HM11 := HM10.blk_ hg1 hb1 hbel; clear HM10 hg1 hb1 hbel)
            | ((with_reducible refine gate_store (t := 25) (p := 16) rfl ?_); (refine HM11.storeAll 0 rfl rfl 25 (.tmp 16) _ rfl (us := #[.int .i64 b7, .int .i64 t7, .slice Ax7 x7.length cx7, .slice Ay7 y7.length cy7]) rfl rfl (one4 rfl rfl rfl rfl) (by exact infoA4) rfl rfl ?_; intro ws HM13; clear HM11))
            | ((with_reducible refine gate_dst (N := 104) rfl ?_); (refine HM13.loadAll 2 rfl 25 (.tmp 15) rfl _ rfl Try.underlying25 rfl (by exact infoA4) rfl ?_))
            | ((with_reducible refine gate_dst (N := 105) rfl ?_); (refine HM13.loadAll 0 rfl 25 (.tmp 16) rfl _ rfl Try.underlying25 rfl (by exact infoA4) rfl ?_))
            | ((with_reducible refine gate_dst (N := 17) rfl ?_); refine box_event ?hg (N := 17) ?hd (cs := #[.int .i64 0, .int .i64 0, .slice none 0 0, .slice none 0 0]) (t := 25) ?hr ?_; (case hd => rfl); (case hg => rfl); (case hr => first | (go_simp; done) | (go_simp; rfl)); intro q17 hg1 wb hb1 hbel; have HM15 := HM14.blk_ hg1 hb1 hbel; clear HM14 hg1 hb1 hbel)
            | ((with_reducible refine gate_store (t := 25) (p := 17) rfl ?_); (refine HM15.storeAll 0 rfl rfl 25 (.tmp 17) _ rfl (us := #[.int .i64 b8, .int .i64 t8, .slice Ax8 x8.length cx8, .slice Ay8 y8.length cy8]) rfl rfl (one4 rfl rfl rfl rfl) (by exact infoA4) rfl rfl ?_; intro ws HM16; clear HM15))
            | ((with_reducible refine gate_dst (N := 109) rfl ?_); (refine HM16.loadAll 6 rfl 25 (.tmp 14) rfl _ rfl Try.underlying25 rfl (by exact infoA4) rfl ?_))
            | ((with_reducible refine gate_dst (N := 110) rfl ?_); (refine HM16.loadAll 0 rfl 25 (.tmp 17) rfl _ rfl Try.underlying25 rfl (by exact infoA4) rfl ?_))
            | (go_at_call 11; (have hq := HM16.two_ (i := 7) rfl; have hp := HM16.two_ (i := 1) rfl; refine (Go.Proofs.Ytlffephcbfdknaa.PSame.filbertsame_Autos.calls kb b6 t6 Ax6 cx6 x6 Ay6 cy6 y6 b8 t8 Ax8 cx8 x8 Ay8 cy8 y8 _ _ (Kd.R_reads' hq.1).2.2 (Kd.R_reads' hq.1).2.1 (Kd.R_reads' hq.2).2.2 (Kd.R_reads' hq.2).2.1 (Kd.R_reads' hp.1).2.2 (Kd.R_reads' hp.1).2.1 (Kd.R_reads' hp.2).2.2 (Kd.R_reads' hp.2).2.1 HKB.out).mono ?_; rintro e w22 ⟨rfl, hb⟩; have HM17 := HM16.grow hb; clear HM16 hb hq hp)))
          refine bodyPost_ret (results_single rfl (.tmp .nil)) (by rfl) ⟨rfl, HM17.below⟩
      · cases o6 <;> cases o2 <;> cases o7 <;> first | (exact absurd ⟨rfl, rfl, rfl⟩ h627) | skip
        all_goals
          go_wp2_with (first
            | ((with_reducible refine gate_dst (N := 71) rfl ?_); (refine HM.loadAll 1 rfl 25 (.tmp 2) rfl _ rfl Try.underlying25 rfl (by exact infoA4) rfl ?_))
            | ((with_reducible refine gate_dst (N := 72) rfl ?_); (refine HM.loadAll 0 rfl 25 (.tmp 3) rfl _ rfl Try.underlying25 rfl (by exact infoA4) rfl ?_))
            | (go_at_call 16; (first | (have hz := HM.below; refine Calls.mono (R5.out.calls A2 c2 A3 c3 B2 d2 B3 d3 _ (Kd.C_below HC2.out HM.below) H2.out (Kd.C_below HC3.out HM.below) H3.out (Kd.C_below HD2.out HM.below) G2.out (Kd.C_below HD3.out HM.below) G3.out) ?_; clear hz; rintro e wc ⟨r, v2, v3, hr, rfl, hr2, hr3, hb⟩; (first | (obtain rfl : r = none := hr.2 rfl; simp only [errW_none]) | (obtain ⟨r0, rfl⟩ := err_some hr; simp only [errW_some])); obtain ⟨Ax5, cx5, rfl⟩ := Kd.R_slice hr2; obtain ⟨Ay5, cy5, rfl⟩ := Kd.R_slice hr3; have HM1 := HM.rows2 hb hr2 hr3; clear HM hb hr2 hr3 hr) | (have hq := HM13.two_ (i := 3) rfl; have hp := HM13.two_ (i := 1) rfl; refine Calls.mono (R8.out.calls Ax2 cx2 Ay2 cy2 Ax7 cx7 Ay7 cy7 _ (Kd.R_reads' hq.1).2.2 (Kd.R_reads' hq.1).2.1 (Kd.R_reads' hq.2).2.2 (Kd.R_reads' hq.2).2.1 (Kd.R_reads' hp.1).2.2 (Kd.R_reads' hp.1).2.1 (Kd.R_reads' hp.2).2.2 (Kd.R_reads' hp.2).2.1) ?_; clear hq hp; rintro e wc ⟨r, v2, v3, hr, rfl, hr2, hr3, hb⟩; (first | (obtain rfl : r = none := hr.2 rfl; simp only [errW_none]) | (obtain ⟨r0, rfl⟩ := err_some hr; simp only [errW_some])); obtain ⟨Ax8, cx8, rfl⟩ := Kd.R_slice hr2; obtain ⟨Ay8, cy8, rfl⟩ := Kd.R_slice hr3; have HM14 := HM13.rows2 hb hr2 hr3; clear HM13 hb hr2 hr3 hr)))
            | ((with_reducible refine gate_dst (N := 12) rfl ?_); refine box_event ?hg (N := 12) ?hd (cs := #[.int .i64 0, .int .i64 0, .slice none 0 0, .slice none 0 0]) (t := 25) ?hr ?_; (case hd => rfl); (case hg => rfl); (case hr => first | (go_simp; done) | (go_simp; rfl)); intro q12 hg1 wb hb1 hbel; have HM2 := HM1.blk_ hg1 hb1 hbel; clear HM1 hg1 hb1 hbel)
            | ((with_reducible refine gate_store (t := 25) (p := 12) rfl ?_); (refine HM2.storeAll 0 rfl rfl 25 (.tmp 12) _ rfl (us := #[.int .i64 b5, .int .i64 t5, .slice Ax5 x5.length cx5, .slice Ay5 y5.length cy5]) rfl rfl (one4 rfl rfl rfl rfl) (by exact infoA4) rfl rfl ?_; intro ws HM3; clear HM2))
            | ((with_reducible refine gate_dst (N := 79) rfl ?_); (refine HM3.loadAll 0 rfl 25 (.tmp 12) rfl _ rfl Try.underlying25 rfl (by exact infoA4) rfl ?_))
            | (go_at_call 12; (first | (have hq := HM3.two_ (i := 1) rfl; refine Calls.mono (R6.out.calls Ax5 cx5 Ay5 cy5 _ (Kd.R_reads' hq.1).2.2 (Kd.R_reads' hq.1).2.1 (Kd.R_reads' hq.2).2.2 (Kd.R_reads' hq.2).2.1) ?_; clear hq; rintro e wc ⟨r, v2, v3, hr, rfl, hr2, hr3, hb⟩; (first | (obtain rfl : r = none := hr.2 rfl; simp only [errW_none]) | (obtain ⟨r0, rfl⟩ := err_some hr; simp only [errW_some])); obtain ⟨Ax6, cx6, rfl⟩ := Kd.R_slice hr2; obtain ⟨Ay6, cy6, rfl⟩ := Kd.R_slice hr3; have HM4 := HM3.rows2 hb hr2 hr3; clear HM3 hb hr2 hr3 hr) | (have hz := HM6.below; refine Calls.mono (R2.out.calls A2 c2 A3 c3 _ (Kd.C_below HC2.out HM6.below) H2.out (Kd.C_below HC3.out HM6.below) H3.out) ?_; clear hz; rintro e wc ⟨r, v2, v3, hr, rfl, hr2, hr3, hb⟩; (first | (obtain rfl : r = none := hr.2 rfl; simp only [errW_none]) | (obtain ⟨r0, rfl⟩ := err_some hr; simp only [errW_some])); obtain ⟨Ax2, cx2, rfl⟩ := Kd.R_slice hr2; obtain ⟨Ay2, cy2, rfl⟩ := Kd.R_slice hr3; have HM7 := HM6.rows2 hb hr2 hr3; clear HM6 hb hr2 hr3 hr) | (have hz := HM9.below; refine Calls.mono (R7.out.calls B2 d2 B3 d3 _ (Kd.C_below HD2.out HM9.below) G2.out (Kd.C_below HD3.out HM9.below) G3.out) ?_; clear hz; rintro e wc ⟨r, v2, v3, hr, rfl, hr2, hr3, hb⟩; (first | (obtain rfl : r = none := hr.2 rfl; simp only [errW_none]) | (obtain ⟨r0, rfl⟩ := err_some hr; simp only [errW_some])); obtain ⟨Ax7, cx7, rfl⟩ := Kd.R_slice hr2; obtain ⟨Ay7, cy7, rfl⟩ := Kd.R_slice hr3; have HM10 := HM9.rows2 hb hr2 hr3; clear HM9 hb hr2 hr3 hr)))
            | ((with_reducible refine gate_dst (N := 14) rfl ?_); refine box_event ?hg (N := 14) ?hd (cs := #[.int .i64 0, .int .i64 0, .slice none 0 0, .slice none 0 0]) (t := 25) ?hr ?_; (case hd => rfl); (case hg => rfl); (case hr => first | (go_simp; done) | (go_simp; rfl)); intro q14 hg1 wb hb1 hbel; have HM5 := HM4.blk_ hg1 hb1 hbel; clear HM4 hg1 hb1 hbel)
            | ((with_reducible refine gate_store (t := 25) (p := 14) rfl ?_); (refine HM5.storeAll 0 rfl rfl 25 (.tmp 14) _ rfl (us := #[.int .i64 b6, .int .i64 t6, .slice Ax6 x6.length cx6, .slice Ay6 y6.length cy6]) rfl rfl (one4 rfl rfl rfl rfl) (by exact infoA4) rfl rfl ?_; intro ws HM6; clear HM5))
            | ((with_reducible refine gate_dst (N := 84) rfl ?_); (refine HM6.loadAll 5 rfl 25 (.tmp 2) rfl _ rfl Try.underlying25 rfl (by exact infoA4) rfl ?_))
            | ((with_reducible refine gate_dst (N := 15) rfl ?_); refine box_event ?hg (N := 15) ?hd (cs := #[.int .i64 0, .int .i64 0, .slice none 0 0, .slice none 0 0]) (t := 25) ?hr ?_; (case hd => rfl); (case hg => rfl); (case hr => first | (go_simp; done) | (go_simp; rfl)); intro q15 hg1 wb hb1 hbel; have HM8 := HM7.blk_ hg1 hb1 hbel; clear HM7 hg1 hb1 hbel)
            | ((with_reducible refine gate_store (t := 25) (p := 15) rfl ?_); (refine HM8.storeAll 0 rfl rfl 25 (.tmp 15) _ rfl (us := #[.int .i64 b2, .int .i64 t2, .slice Ax2 x2.length cx2, .slice Ay2 y2.length cy2]) rfl rfl (one4 rfl rfl rfl rfl) (by exact infoA4) rfl rfl ?_; intro ws HM9; clear HM8))
            | ((with_reducible refine gate_dst (N := 89) rfl ?_); (refine HM9.loadAll 6 rfl 25 (.tmp 3) rfl _ rfl Try.underlying25 rfl (by exact infoA4) rfl ?_))
            | ((with_reducible refine gate_dst (N := 16) rfl ?_); refine box_event ?hg (N := 16) ?hd (cs := #[.int .i64 0, .int .i64 0, .slice none 0 0, .slice none 0 0]) (t := 25) ?hr ?_; (case hd => rfl); (case hg => rfl); (case hr => first | (go_simp; done) | (go_simp; rfl)); intro q16 hg1 wb hb1 hbel; have HM11 := HM10.blk_ hg1 hb1 hbel; clear HM10 hg1 hb1 hbel)
            | ((with_reducible refine gate_store (t := 25) (p := 16) rfl ?_); (refine HM11.storeAll 0 rfl rfl 25 (.tmp 16) _ rfl (us := #[.int .i64 b7, .int .i64 t7, .slice Ax7 x7.length cx7, .slice Ay7 y7.length cy7]) rfl rfl (one4 rfl rfl rfl rfl) (by exact infoA4) rfl rfl ?_; intro ws HM13; clear HM11))
            | ((with_reducible refine gate_dst (N := 104) rfl ?_); (refine HM13.loadAll 2 rfl 25 (.tmp 15) rfl _ rfl Try.underlying25 rfl (by exact infoA4) rfl ?_))
            | ((with_reducible refine gate_dst (N := 105) rfl ?_); (refine HM13.loadAll 0 rfl 25 (.tmp 16) rfl _ rfl Try.underlying25 rfl (by exact infoA4) rfl ?_))
            | ((with_reducible refine gate_dst (N := 17) rfl ?_); refine box_event ?hg (N := 17) ?hd (cs := #[.int .i64 0, .int .i64 0, .slice none 0 0, .slice none 0 0]) (t := 25) ?hr ?_; (case hd => rfl); (case hg => rfl); (case hr => first | (go_simp; done) | (go_simp; rfl)); intro q17 hg1 wb hb1 hbel; have HM15 := HM14.blk_ hg1 hb1 hbel; clear HM14 hg1 hb1 hbel)
            | ((with_reducible refine gate_store (t := 25) (p := 17) rfl ?_); (refine HM15.storeAll 0 rfl rfl 25 (.tmp 17) _ rfl (us := #[.int .i64 b8, .int .i64 t8, .slice Ax8 x8.length cx8, .slice Ay8 y8.length cy8]) rfl rfl (one4 rfl rfl rfl rfl) (by exact infoA4) rfl rfl ?_; intro ws HM16; clear HM15))
            | ((with_reducible refine gate_dst (N := 109) rfl ?_); (refine HM16.loadAll 6 rfl 25 (.tmp 14) rfl _ rfl Try.underlying25 rfl (by exact infoA4) rfl ?_))
            | ((with_reducible refine gate_dst (N := 110) rfl ?_); (refine HM16.loadAll 0 rfl 25 (.tmp 17) rfl _ rfl Try.underlying25 rfl (by exact infoA4) rfl ?_))
            | (go_at_call 11; (have hq := HM16.two_ (i := 7) rfl; have hp := HM16.two_ (i := 1) rfl; refine (Go.Proofs.Ytlffephcbfdknaa.PSame.filbertsame_Autos.calls kb b6 t6 Ax6 cx6 x6 Ay6 cy6 y6 b8 t8 Ax8 cx8 x8 Ay8 cy8 y8 _ _ (Kd.R_reads' hq.1).2.2 (Kd.R_reads' hq.1).2.1 (Kd.R_reads' hq.2).2.2 (Kd.R_reads' hq.2).2.1 (Kd.R_reads' hp.1).2.2 (Kd.R_reads' hp.1).2.1 (Kd.R_reads' hp.2).2.2 (Kd.R_reads' hp.2).2.1 HKB.out).mono ?_; rintro e w22 ⟨rfl, hb⟩; have HM17 := HM16.grow hb; clear HM16 hb hq hp)))
          refine bodyPost_ret (results_single rfl (.tmp .nil)) (by rfl) ⟨rfl, HM13.below⟩
    · obtain rfl : o5 = false := by cases o5 <;> simp_all
      go_wp2_with (first
        | ((with_reducible refine gate_dst (N := 71) rfl ?_); (refine HM.loadAll 1 rfl 25 (.tmp 2) rfl _ rfl Try.underlying25 rfl (by exact infoA4) rfl ?_))
        | ((with_reducible refine gate_dst (N := 72) rfl ?_); (refine HM.loadAll 0 rfl 25 (.tmp 3) rfl _ rfl Try.underlying25 rfl (by exact infoA4) rfl ?_))
        | (go_at_call 16; (first | (have hz := HM.below; refine Calls.mono (R5.out.calls A2 c2 A3 c3 B2 d2 B3 d3 _ (Kd.C_below HC2.out HM.below) H2.out (Kd.C_below HC3.out HM.below) H3.out (Kd.C_below HD2.out HM.below) G2.out (Kd.C_below HD3.out HM.below) G3.out) ?_; clear hz; rintro e wc ⟨r, v2, v3, hr, rfl, hr2, hr3, hb⟩; (first | (obtain rfl : r = none := hr.2 rfl; simp only [errW_none]) | (obtain ⟨r0, rfl⟩ := err_some hr; simp only [errW_some])); obtain ⟨Ax5, cx5, rfl⟩ := Kd.R_slice hr2; obtain ⟨Ay5, cy5, rfl⟩ := Kd.R_slice hr3; have HM1 := HM.rows2 hb hr2 hr3; clear HM hb hr2 hr3 hr) | (have hq := HM13.two_ (i := 3) rfl; have hp := HM13.two_ (i := 1) rfl; refine Calls.mono (R8.out.calls Ax2 cx2 Ay2 cy2 Ax7 cx7 Ay7 cy7 _ (Kd.R_reads' hq.1).2.2 (Kd.R_reads' hq.1).2.1 (Kd.R_reads' hq.2).2.2 (Kd.R_reads' hq.2).2.1 (Kd.R_reads' hp.1).2.2 (Kd.R_reads' hp.1).2.1 (Kd.R_reads' hp.2).2.2 (Kd.R_reads' hp.2).2.1) ?_; clear hq hp; rintro e wc ⟨r, v2, v3, hr, rfl, hr2, hr3, hb⟩; (first | (obtain rfl : r = none := hr.2 rfl; simp only [errW_none]) | (obtain ⟨r0, rfl⟩ := err_some hr; simp only [errW_some])); obtain ⟨Ax8, cx8, rfl⟩ := Kd.R_slice hr2; obtain ⟨Ay8, cy8, rfl⟩ := Kd.R_slice hr3; have HM14 := HM13.rows2 hb hr2 hr3; clear HM13 hb hr2 hr3 hr)))
        | ((with_reducible refine gate_dst (N := 12) rfl ?_); refine box_event ?hg (N := 12) ?hd (cs := #[.int .i64 0, .int .i64 0, .slice none 0 0, .slice none 0 0]) (t := 25) ?hr ?_; (case hd => rfl); (case hg => rfl); (case hr => first | (go_simp; done) | (go_simp; rfl)); intro q12 hg1 wb hb1 hbel; have HM2 := HM1.blk_ hg1 hb1 hbel; clear HM1 hg1 hb1 hbel)
        | ((with_reducible refine gate_store (t := 25) (p := 12) rfl ?_); (refine HM2.storeAll 0 rfl rfl 25 (.tmp 12) _ rfl (us := #[.int .i64 b5, .int .i64 t5, .slice Ax5 x5.length cx5, .slice Ay5 y5.length cy5]) rfl rfl (one4 rfl rfl rfl rfl) (by exact infoA4) rfl rfl ?_; intro ws HM3; clear HM2))
        | ((with_reducible refine gate_dst (N := 79) rfl ?_); (refine HM3.loadAll 0 rfl 25 (.tmp 12) rfl _ rfl Try.underlying25 rfl (by exact infoA4) rfl ?_))
        | (go_at_call 12; (first | (have hq := HM3.two_ (i := 1) rfl; refine Calls.mono (R6.out.calls Ax5 cx5 Ay5 cy5 _ (Kd.R_reads' hq.1).2.2 (Kd.R_reads' hq.1).2.1 (Kd.R_reads' hq.2).2.2 (Kd.R_reads' hq.2).2.1) ?_; clear hq; rintro e wc ⟨r, v2, v3, hr, rfl, hr2, hr3, hb⟩; (first | (obtain rfl : r = none := hr.2 rfl; simp only [errW_none]) | (obtain ⟨r0, rfl⟩ := err_some hr; simp only [errW_some])); obtain ⟨Ax6, cx6, rfl⟩ := Kd.R_slice hr2; obtain ⟨Ay6, cy6, rfl⟩ := Kd.R_slice hr3; have HM4 := HM3.rows2 hb hr2 hr3; clear HM3 hb hr2 hr3 hr) | (have hz := HM6.below; refine Calls.mono (R2.out.calls A2 c2 A3 c3 _ (Kd.C_below HC2.out HM6.below) H2.out (Kd.C_below HC3.out HM6.below) H3.out) ?_; clear hz; rintro e wc ⟨r, v2, v3, hr, rfl, hr2, hr3, hb⟩; (first | (obtain rfl : r = none := hr.2 rfl; simp only [errW_none]) | (obtain ⟨r0, rfl⟩ := err_some hr; simp only [errW_some])); obtain ⟨Ax2, cx2, rfl⟩ := Kd.R_slice hr2; obtain ⟨Ay2, cy2, rfl⟩ := Kd.R_slice hr3; have HM7 := HM6.rows2 hb hr2 hr3; clear HM6 hb hr2 hr3 hr) | (have hz := HM9.below; refine Calls.mono (R7.out.calls B2 d2 B3 d3 _ (Kd.C_below HD2.out HM9.below) G2.out (Kd.C_below HD3.out HM9.below) G3.out) ?_; clear hz; rintro e wc ⟨r, v2, v3, hr, rfl, hr2, hr3, hb⟩; (first | (obtain rfl : r = none := hr.2 rfl; simp only [errW_none]) | (obtain ⟨r0, rfl⟩ := err_some hr; simp only [errW_some])); obtain ⟨Ax7, cx7, rfl⟩ := Kd.R_slice hr2; obtain ⟨Ay7, cy7, rfl⟩ := Kd.R_slice hr3; have HM10 := HM9.rows2 hb hr2 hr3; clear HM9 hb hr2 hr3 hr)))
        | ((with_reducible refine gate_dst (N := 14) rfl ?_); refine box_event ?hg (N := 14) ?hd (cs := #[.int .i64 0, .int .i64 0, .slice none 0 0, .slice none 0 0]) (t := 25) ?hr ?_; (case hd => rfl); (case hg => rfl); (case hr => first | (go_simp; done) | (go_simp; rfl)); intro q14 hg1 wb hb1 hbel; have HM5 := HM4.blk_ hg1 hb1 hbel; clear HM4 hg1 hb1 hbel)
        | ((with_reducible refine gate_store (t := 25) (p := 14) rfl ?_); (refine HM5.storeAll 0 rfl rfl 25 (.tmp 14) _ rfl (us := #[.int .i64 b6, .int .i64 t6, .slice Ax6 x6.length cx6, .slice Ay6 y6.length cy6]) rfl rfl (one4 rfl rfl rfl rfl) (by exact infoA4) rfl rfl ?_; intro ws HM6; clear HM5))
        | ((with_reducible refine gate_dst (N := 84) rfl ?_); (refine HM6.loadAll 5 rfl 25 (.tmp 2) rfl _ rfl Try.underlying25 rfl (by exact infoA4) rfl ?_))
        | ((with_reducible refine gate_dst (N := 15) rfl ?_); refine box_event ?hg (N := 15) ?hd (cs := #[.int .i64 0, .int .i64 0, .slice none 0 0, .slice none 0 0]) (t := 25) ?hr ?_; (case hd => rfl); (case hg => rfl); (case hr => first | (go_simp; done) | (go_simp; rfl)); intro q15 hg1 wb hb1 hbel; have HM8 := HM7.blk_ hg1 hb1 hbel; clear HM7 hg1 hb1 hbel)
        | ((with_reducible refine gate_store (t := 25) (p := 15) rfl ?_); (refine HM8.storeAll 0 rfl rfl 25 (.tmp 15) _ rfl (us := #[.int .i64 b2, .int .i64 t2, .slice Ax2 x2.length cx2, .slice Ay2 y2.length cy2]) rfl rfl (one4 rfl rfl rfl rfl) (by exact infoA4) rfl rfl ?_; intro ws HM9; clear HM8))
        | ((with_reducible refine gate_dst (N := 89) rfl ?_); (refine HM9.loadAll 6 rfl 25 (.tmp 3) rfl _ rfl Try.underlying25 rfl (by exact infoA4) rfl ?_))
        | ((with_reducible refine gate_dst (N := 16) rfl ?_); refine box_event ?hg (N := 16) ?hd (cs := #[.int .i64 0, .int .i64 0, .slice none 0 0, .slice none 0 0]) (t := 25) ?hr ?_; (case hd => rfl); (case hg => rfl); (case hr => first | (go_simp; done) | (go_simp; rfl)); intro q16 hg1 wb hb1 hbel; have HM11 := HM10.blk_ hg1 hb1 hbel; clear HM10 hg1 hb1 hbel)
        | ((with_reducible refine gate_store (t := 25) (p := 16) rfl ?_); (refine HM11.storeAll 0 rfl rfl 25 (.tmp 16) _ rfl (us := #[.int .i64 b7, .int .i64 t7, .slice Ax7 x7.length cx7, .slice Ay7 y7.length cy7]) rfl rfl (one4 rfl rfl rfl rfl) (by exact infoA4) rfl rfl ?_; intro ws HM13; clear HM11))
        | ((with_reducible refine gate_dst (N := 104) rfl ?_); (refine HM13.loadAll 2 rfl 25 (.tmp 15) rfl _ rfl Try.underlying25 rfl (by exact infoA4) rfl ?_))
        | ((with_reducible refine gate_dst (N := 105) rfl ?_); (refine HM13.loadAll 0 rfl 25 (.tmp 16) rfl _ rfl Try.underlying25 rfl (by exact infoA4) rfl ?_))
        | ((with_reducible refine gate_dst (N := 17) rfl ?_); refine box_event ?hg (N := 17) ?hd (cs := #[.int .i64 0, .int .i64 0, .slice none 0 0, .slice none 0 0]) (t := 25) ?hr ?_; (case hd => rfl); (case hg => rfl); (case hr => first | (go_simp; done) | (go_simp; rfl)); intro q17 hg1 wb hb1 hbel; have HM15 := HM14.blk_ hg1 hb1 hbel; clear HM14 hg1 hb1 hbel)
        | ((with_reducible refine gate_store (t := 25) (p := 17) rfl ?_); (refine HM15.storeAll 0 rfl rfl 25 (.tmp 17) _ rfl (us := #[.int .i64 b8, .int .i64 t8, .slice Ax8 x8.length cx8, .slice Ay8 y8.length cy8]) rfl rfl (one4 rfl rfl rfl rfl) (by exact infoA4) rfl rfl ?_; intro ws HM16; clear HM15))
        | ((with_reducible refine gate_dst (N := 109) rfl ?_); (refine HM16.loadAll 6 rfl 25 (.tmp 14) rfl _ rfl Try.underlying25 rfl (by exact infoA4) rfl ?_))
        | ((with_reducible refine gate_dst (N := 110) rfl ?_); (refine HM16.loadAll 0 rfl 25 (.tmp 17) rfl _ rfl Try.underlying25 rfl (by exact infoA4) rfl ?_))
        | (go_at_call 11; (have hq := HM16.two_ (i := 7) rfl; have hp := HM16.two_ (i := 1) rfl; refine (Go.Proofs.Ytlffephcbfdknaa.PSame.filbertsame_Autos.calls kb b6 t6 Ax6 cx6 x6 Ay6 cy6 y6 b8 t8 Ax8 cx8 x8 Ay8 cy8 y8 _ _ (Kd.R_reads' hq.1).2.2 (Kd.R_reads' hq.1).2.1 (Kd.R_reads' hq.2).2.2 (Kd.R_reads' hq.2).2.1 (Kd.R_reads' hp.1).2.2 (Kd.R_reads' hp.1).2.1 (Kd.R_reads' hp.2).2.2 (Kd.R_reads' hp.2).2.1 HKB.out).mono ?_; rintro e w22 ⟨rfl, hb⟩; have HM17 := HM16.grow hb; clear HM16 hb hq hp)))
      refine bodyPost_ret (results_single rfl (.tmp .nil)) (by rfl) ⟨rfl, HM3.below⟩
end Go.Proofs.Ytlffephcbfdknaa.Wk
