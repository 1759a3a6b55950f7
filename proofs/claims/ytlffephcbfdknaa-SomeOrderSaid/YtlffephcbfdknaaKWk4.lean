/- Walk by hand: least.Least. -/
import Derived.Test.YtlffephcbfdknaaKWk1
import Derived.Test.YtlffephcbfdknaaKChk
import Derived.Test.YtlffephcbfdknaaK2
import Derived.Test.YtlffephcbfdknaaK1
set_option linter.unusedVariables false
set_option linter.unusedSimpArgs false
namespace Go.Proofs.Ytlffephcbfdknaa.Wk
open Go.RowKit Go.Proofs.YtlffephcbfdknaaW.PrintWords Go.Proofs.YtlffephcbfdknaaW.PrintMore Go.Proofs.YtlffephcbfdknaaW.PrintLast Go.Proofs.Sep Go.Proofs.Fil Go.Proofs.Ytlffephcbfdknaa.Chk Go.Proofs.Ytlffephcbfdknaa.PSomeTakes

theorem one4 {a b c d : Value} (ha : a.oneCell' = true) (hb : b.oneCell' = true) (hc : c.oneCell' = true) (hd : d.oneCell' = true) : ∀ q ∈ (#[a, b, c, d] : Array Value).toList, q.oneCell' = true := by
  intro q hq
  simp only [List.mem_cons, List.not_mem_nil, or_false] at hq
  rcases hq with rfl | rfl | rfl | rfl <;> assumption
theorem ok_of_can {base tracks : Int} {n : Nat} (hm : manyN base tracks = some n) {L : Lang} {out : Tab × List Bool} (hc : Go.Proofs.Fil.Can n L out) (h80 : out.1.length ≤ 80) : Ok base tracks (II out.1) out.2 n out.1 := ⟨hm, rfl, hc.wf, h80⟩

set_option maxRecDepth 100000 in
set_option maxHeartbeats 4000000 in
theorem least_calls (base tracks : Int) (A2 : Option Addr) (c2 : Nat) (l2 : List (List Int)) (A3 : Option Addr) (c3 : Nat) (l3 : List Bool) (W : World) (hC2 : kL.C W A2 l2.length l2) (h2 : l2.length ≤ c2) (hC3 : kB.C W A3 l3.length l3) (h3 : l3.length ≤ c3) :
    Calls Try.prog 10 #[.agg #[.int .i64 base, .int .i64 tracks, .slice A2 l2.length c2, .slice A3 l3.length c3]] W fun e w' => Below W.heap.size W w' ∧
      ((∃ n T out v2 v3, Ok base tracks l2 l3 n T ∧ Go.Proofs.Fil.Can n (lof n (T, l3) 0) out ∧ e = .returned (.tuple #[.agg #[.int .i64 base, .int .i64 tracks, v2, v3], .nilIface]) ∧ kL.R 26 w' W.heap.size (fun _ => True) v2 (II out.1) ∧ kB.R 4 w' W.heap.size (fun _ => True) v3 out.2) ∨
       ((¬ ∃ n T, Ok base tracks l2 l3 n T) ∧ ∃ x, (x = 1 ∨ x = 2 ∨ x = 3 ∨ x = 4) ∧ e = .returned (.tuple #[.agg #[.int .i64 0, .int .i64 0, .slice none 0 0, .slice none 0 0], errW (some x)]))) := by
  obtain ⟨k, r, hk, hr1, hr2⟩ := check_spec base tracks l2 l3
  have HC2 := Aside0.mk hC2
  have HC3 := Aside0.mk hC3
  have H2 := Aside0.mk h2
  have H3 := Aside0.mk h3
  have HK := Aside0.mk hk
  clear hC2 hC3 hk
  have HM := Mem.start W
  cases r with
  | some x =>
    have HN := Aside0.mk (show ¬ ∃ n T, Ok base tracks l2 l3 n T from fun h => by have := hr1.2 h; cases this)
    have HX := Aside0.mk (hr2 x rfl)
    clear hr1 hr2
    go_enter Try.func10, Try.ntmps10
    go_wp2_with (first
      | ((with_reducible refine gate_dst (N := 1) rfl ?_); refine box_event ?hg (N := 1) ?hd (cs := #[.int .i64 base, .int .i64 tracks, .slice A2 l2.length c2, .slice A3 l3.length c3]) (t := 25) ?hr ?_; (case hd => rfl); (case hg => rfl); (case hr => first | (go_simp; done) | (go_simp; rfl)); intro g1 hg1 w1 hb1 hbel; have HM1 := HM.blk_ hg1 hb1 hbel; clear HM hg1 hb1 hbel)
      | ((with_reducible refine gate_dst (N := 2) rfl ?_); refine box_event ?hg (N := 2) ?hd (cs := #[.int .i64 0, .int .i64 0, .slice none 0 0, .slice none 0 0]) (t := 25) ?hr ?_; (case hd => rfl); (case hg => rfl); (case hr => first | (go_simp; done) | (go_simp; rfl)); intro g2 hg2 w2 hb2 hbel; have HM2 := HM1.blk_ hg2 hb2 hbel; clear HM1 hg2 hb2 hbel)
      | ((with_reducible refine gate_dst (N := 7) rfl ?_); (refine HM2.loadAll 1 rfl 25 (.tmp 1) rfl _ rfl Try.underlying25 rfl (by exact infoA4) rfl ?_))
      | (go_at_call 26; refine (auto_Check.calls k base tracks A2 c2 l2 A3 c3 l3 (some x) _ (Kd.C_below HC2.out HM2.below) H2.out (Kd.C_below HC3.out HM2.below) H3.out HK.out).mono ?_; rintro e w3 ⟨rfl, hb⟩; have HM3 := HM2.grow hb; clear HM2 hb; simp only [errW_some])
      | ((with_reducible refine gate_store (t := 25) (p := 2) rfl ?_); (refine HM3.storeAll 0 rfl rfl 25 (.tmp 2) _ rfl (us := #[.int .i64 0, .int .i64 0, .slice none 0 0, .slice none 0 0]) rfl rfl (one4 rfl rfl rfl rfl) (by exact infoA4) rfl rfl ?_; intro w4 HM4; clear HM3)))
    refine bodyPost_ret (results_list (rs := [.cell 2 25, .tmp 3]) rfl (by simp) (.cell g2 25 _ (0, 0) _ rfl (HM4.blkAt (i := 0) rfl).1 Try.underlying25 rfl infoA4 (.tmp .nil))) (by rfl) ?_
    exact ⟨HM4.below, .inr ⟨HN.out, x, HX.out, rfl⟩⟩
  | none =>
    obtain ⟨n, T, hok⟩ := hr1.1 rfl
    have HOK := Aside0.mk hok
    have hn := manyN_le hok.many
    have hT80 := hok.small
    obtain rfl : l2 = II T := hok.eq
    clear hr1 hr2 hok
    go_enter Try.func10, Try.ntmps10
    go_wp2_with (first
      | ((with_reducible refine gate_dst (N := 1) rfl ?_); refine box_event ?hg (N := 1) ?hd (cs := #[.int .i64 base, .int .i64 tracks, .slice A2 (II T).length c2, .slice A3 l3.length c3]) (t := 25) ?hr ?_; (case hd => rfl); (case hg => rfl); (case hr => first | (go_simp; done) | (go_simp; rfl)); intro g1 hg1 w1 hb1 hbel; have HM1 := HM.blk_ hg1 hb1 hbel; clear HM hg1 hb1 hbel)
      | ((with_reducible refine gate_dst (N := 2) rfl ?_); refine box_event ?hg (N := 2) ?hd (cs := #[.int .i64 0, .int .i64 0, .slice none 0 0, .slice none 0 0]) (t := 25) ?hr ?_; (case hd => rfl); (case hg => rfl); (case hr => first | (go_simp; done) | (go_simp; rfl)); intro g2 hg2 w2 hb2 hbel; have HM2 := HM1.blk_ hg2 hb2 hbel; clear HM1 hg2 hb2 hbel)
      | ((with_reducible refine gate_dst (N := 7) rfl ?_); (refine HM2.loadAll 1 rfl 25 (.tmp 1) rfl _ rfl Try.underlying25 rfl (by exact infoA4) rfl ?_))
      | (go_at_call 26; refine (auto_Check.calls k base tracks A2 c2 (II T) A3 c3 l3 none _ (Kd.C_below HC2.out HM2.below) H2.out (Kd.C_below HC3.out HM2.below) H3.out HK.out).mono ?_; rintro e w3 ⟨rfl, hb⟩; have HM3 := HM2.grow hb; clear HM2 hb; simp only [errW_none]; have hc0 := (HM3.cell (i := 1) rfl 0).1; have hc1 := (HM3.cell (i := 1) rfl 1).1; have hc2 := (HM3.cell (i := 1) rfl 2).1; have hc3 := (HM3.cell (i := 1) rfl 3).1; simp only [List.getElem?_toArray, List.getElem?_cons_zero, List.getElem?_cons_succ] at hc0 hc1 hc2 hc3)
      | (go_at_call 22; (refine (shrink_calls n T l3 HOK.out.wf (by omega) (by omega) base tracks A2 c2 A3 c3 _ (Kd.C_below HC2.out HM3.below) (Kd.C_below HC3.out HM3.below)).mono ?_; rintro e w4 ⟨out, hcan, hcase, hb⟩; have hle := can_le HOK.out.wf hcan; rcases hcase with ⟨h80, v2, v3, rfl, hr2, hr3⟩ | ⟨hbig, _⟩; rotate_left; (exact absurd hbig (by omega)); obtain ⟨Ao2, co2, rfl⟩ := Kd.R_slice hr2; obtain ⟨Ao3, co3, rfl⟩ := Kd.R_slice hr3; have HM4 := HM3.rows2 hb hr2 hr3; have HCAN := Aside0.mk hcan; clear HM3 hc0 hc1 hc2 hc3 hb hr2 hr3 hcan))
      | ((with_reducible refine gate_dst (N := 5) rfl ?_); refine box_event ?hg (N := 5) ?hd (cs := #[.int .i64 0, .int .i64 0, .slice none 0 0, .slice none 0 0]) (t := 25) ?hr ?_; (case hd => rfl); (case hg => rfl); (case hr => first | (go_simp; done) | (go_simp; rfl)); intro g5 hg5 w5 hb5 hbel; have HM5 := HM4.blk_ hg5 hb5 hbel; clear HM4 hg5 hb5 hbel)
      | ((with_reducible refine gate_store (t := 25) (p := 5) rfl ?_); (refine HM5.storeAll 0 rfl rfl 25 (.tmp 5) _ rfl (us := #[.int .i64 base, .int .i64 tracks, .slice Ao2 (II out.1).length co2, .slice Ao3 out.2.length co3]) rfl rfl (one4 rfl rfl rfl rfl) (by exact infoA4) rfl rfl ?_; intro w6 HM6; clear HM5))
      | ((with_reducible refine gate_dst (N := 25) rfl ?_); (refine HM6.loadAll 0 rfl 25 (.tmp 5) rfl _ rfl Try.underlying25 rfl (by exact infoA4) rfl ?_))
      | ((with_reducible refine gate_store (t := 25) (p := 2) rfl ?_); (refine HM6.storeAll 2 rfl rfl 25 (.tmp 2) _ rfl (us := #[.int .i64 base, .int .i64 tracks, .slice Ao2 (II out.1).length co2, .slice Ao3 out.2.length co3]) rfl rfl (one4 rfl rfl rfl rfl) (by exact infoA4) rfl rfl ?_; intro w7 HM7; clear HM6)))
    refine bodyPost_ret (results_list (rs := [.cell 2 25, .tmp 3]) rfl (by simp) (.cell g2 25 _ (0, 0) _ rfl (HM7.blkAt (i := 2) rfl).1 Try.underlying25 rfl infoA4 (.tmp .nil))) (by rfl) ?_
    have h2 := HM7.two_ (i := 1) rfl
    exact ⟨HM7.below, .inl ⟨n, T, out, _, _, HOK.out, HCAN.out, rfl, h2.1, h2.2⟩⟩
end Go.Proofs.Ytlffephcbfdknaa.Wk
