/- Walk by hand: the law TurnTakes, its walk. -/
import Derived.Test.YtlffephcbfdknaaKWk8
import Derived.Deep.QuietTactic
import Derived.BigQuiet
set_option linter.unusedVariables false
set_option linter.unusedSimpArgs false
namespace Go.Proofs.Ytlffephcbfdknaa.Wk
open Go.RowKit Go.Proofs.YtlffephcbfdknaaW.PrintWords Go.Proofs.YtlffephcbfdknaaW.PrintMore Go.Proofs.YtlffephcbfdknaaW.PrintLast Go.Proofs.Sep Go.Proofs.Fil Go.Proofs.Ytlffephcbfdknaa.Chk Go.Proofs.Ytlffephcbfdknaa.PTurnTakes

set_option maxRecDepth 100000 in
set_option maxHeartbeats 4000000 in
theorem turnTakes_calls (base tracks : Int) (A2 : Option Addr) (c2 : Nat) (l2 : List (List Int)) (A3 : Option Addr) (c3 : Nat) (l3 : List Bool) (Aw : Option Addr) (cw : Nat) (lw : List Int) (W : World) (hC2 : kL.C W A2 l2.length l2) (h2 : l2.length ≤ c2) (hC3 : kB.C W A3 l3.length l3) (h3 : l3.length ≤ c3) (hCw : kI.C W Aw lw.length lw) (hw : lw.length ≤ cw) (hlw : lw.length * 8 ≤ 140737488355328) :
    Calls Try.prog 3 #[.agg #[.int .i64 base, .int .i64 tracks, .slice A2 l2.length c2, .slice A3 l3.length c3], .slice Aw lw.length cw] W fun e w' => e = .returned (.bool true) ∧ Below W.heap.size W w' := by
  have HC2 := Aside0.mk hC2
  have HC3 := Aside0.mk hC3
  have HCw := Aside0.mk hCw
  have H2 := Aside0.mk h2
  have H3 := Aside0.mk h3
  have HWC := Aside0.mk hw
  clear hC2 hC3 h2 h3 hCw hw
  have HM := Mem.start W
  go_enter Try.func3, Try.ntmps3
  go_wp2_with (first
    | ((with_reducible refine gate_dst (N := 2) rfl ?_); refine box_event ?hg (N := 2) ?hd (cs := #[.int .i64 base, .int .i64 tracks, .slice A2 l2.length c2, .slice A3 l3.length c3]) (t := 25) ?hr ?_; (case hd => rfl); (case hg => rfl); (case hr => first | (go_simp; done) | (go_simp; rfl)); intro g2 hg w2 hb hbel; have HM1 := HM.blk_ hg hb hbel; clear HM hg hb hbel)
    | ((with_reducible refine gate_dst (N := 19) rfl ?_); (refine HM1.lit (enc := Value.int .i64) (h1 := fun _ => rfl) 3 rfl (N := 19) rfl [0, 1] ?hr (by decide) ?_; (case hr => first | (go_simp; done) | (go_simp; rfl)); intro v19 w19 HM2; clear HM1))
    | ((with_reducible refine gate_dst (N := 20) rfl ?_); (refine HM2.lit (enc := Value.int .i64) (h1 := fun _ => rfl) 3 rfl (N := 20) rfl [0, 1] ?hr (by decide) ?_; (case hr => first | (go_simp; done) | (go_simp; rfl)); intro v20 w20 HM3; clear HM2; obtain ⟨A20, c20, e20, _, _⟩ := HM3.rowSlice (i := 0) rfl; subst e20; obtain ⟨A19, c19, e19, _, _⟩ := HM3.rowSlice (i := 1) rfl; subst e19))
    | ((with_reducible refine gate_dst (N := 21) rfl ?_); (refine HM3.litRows2 26 rfl (N := 21) rfl ?hr ?_; (case hr => first | (go_simp; done) | (go_simp; rfl)); intro v21 w21 HM4; clear HM3; obtain ⟨A21, c21, e21, hc21, _⟩ := HM4.rowSlice (i := 0) rfl; subst e21))
    | ((with_reducible refine gate_dst (N := 22) rfl ?_); (refine HM4.lit (enc := Value.bool) (h1 := fun _ => rfl) 4 rfl (N := 22) rfl [false, true] ?hr (by decide) ?_; (case hr => first | (go_simp; done) | (go_simp; rfl)); intro v22 w22 HM5; clear HM4; obtain ⟨A22, c22, e22, hc22, _⟩ := HM5.rowSlice (i := 0) rfl; subst e22))
    | ((with_reducible refine gate_dst (N := 5) rfl ?_); refine box_event ?hg (N := 5) ?hd (cs := #[.int .i64 0, .int .i64 0, .slice none 0 0, .slice none 0 0]) (t := 25) ?hr ?_; (case hd => rfl); (case hg => rfl); (case hr => first | (go_simp; done) | (go_simp; rfl)); intro g5 hg w5 hb hbel; have HM6 := HM5.blk_ hg hb hbel; clear HM5 hg hb hbel)
    | ((with_reducible refine gate_store (t := 25) (p := 5) rfl ?_); (refine HM6.storeAll 0 rfl rfl 25 (.tmp 5) _ rfl (us := #[.int .i64 2, .int .i64 1, .slice A21 2 c21, .slice A22 2 c22]) rfl rfl (one4 rfl rfl rfl rfl) (by exact infoA4) rfl rfl ?_; intro w6 HM7; clear HM6))
    | ((with_reducible refine gate_dst (N := 25) rfl ?_); (refine HM7.loadAll 0 rfl 25 (.tmp 5) rfl _ rfl Try.underlying25 rfl (by exact infoA4) rfl ?_))
    | (go_at_call 8; (refine (turn_calls 2 1 A21 c21 (II T0) A22 c22 e0 _ (Kd.R_reads' (HM7.rowAt (i := 2) rfl)).2.2 hc21 (Kd.R_reads' (HM7.rowAt (i := 1) rfl)).2.2 hc22).mono ?_; rintro e w7 ⟨hb, hpost⟩; obtain ⟨v2, v3, rfl, hr2, hr3⟩ := hpost.yes turns0; obtain ⟨Am, cm, rfl⟩ := Kd.R_slice hr2; obtain ⟨Ae, ce, rfl⟩ := Kd.R_slice hr3; have HM8 := ((HM7.drop 1).drop 1).rows2 hb hr2 hr3; clear HM7 hb hpost hr2 hr3))
    | ((with_reducible refine gate_dst (N := 6) rfl ?_); refine box_event ?hg (N := 6) ?hd (cs := #[.int .i64 0, .int .i64 0, .slice none 0 0, .slice none 0 0]) (t := 25) ?hr ?_; (case hd => rfl); (case hg => rfl); (case hr => first | (go_simp; done) | (go_simp; rfl)); intro g6 hg w8 hb hbel; have HM9 := HM8.blk_ hg hb hbel; clear HM8 hg hb hbel)
    | ((with_reducible refine gate_store (t := 25) (p := 6) rfl ?_); (refine HM9.storeAll 0 rfl rfl 25 (.tmp 6) _ rfl (us := #[.int .i64 2, .int .i64 1, .slice Am 3 cm, .slice Ae 3 ce]) rfl rfl (one4 rfl rfl rfl rfl) (by exact infoA4) rfl rfl ?_; intro w9 HM10; clear HM9)))
  have hq := HM10.two_ (i := 1) rfl
  have hm2 : w9.cell? ⟨g6, 2, none⟩ = some (.slice Am 3 cm) := (HM10.cell (i := 0) rfl 2).1
  have hm3 : w9.cell? ⟨g6, 3, none⟩ = some (.slice Ae 3 ce) := (HM10.cell (i := 0) rfl 3).1
  obtain ⟨am, A1, c1, eAm, hcm, _, hC1⟩ := row_at (m := M0) (Kd.R_reads' hq.1).2.2 (i := 0) (by decide)
  subst eAm
  have hcm0 : w9.cell? am = some (.slice A1 2 c1) := by have h := hcm; rw [Addr.add, if_pos rfl] at h; exact h
  obtain ⟨a1, e1, hc1⟩ := Kd.at_int hC1 (1 : Int) (by decide) (by decide)
  subst e1
  have hc1' : w9.cell? ⟨a1.block, a1.off + 1, none⟩ = some (.int .i64 2) := hc1
  obtain ⟨ae, ee, hce⟩ := Kd.at_bool (Kd.R_reads' hq.2).2.2 (0 : Int) (by decide) (by decide)
  subst ee
  have hce0 : w9.cell? ae = some (.bool false) := by have h := hce; rw [show (0 : Int).toNat = 0 from rfl, Addr.add, if_pos rfl] at h; exact h
  obtain ⟨ae', ee', hce2⟩ := Kd.at_bool (Kd.R_reads' hq.2).2.2 (2 : Int) (by decide) (by decide)
  injection ee' with ee'
  subst ee'
  have hce2' : w9.cell? ⟨ae.block, ae.off + 2, none⟩ = some (.bool true) := hce2
  clear hcm hc1 hce hce2 hC1 hq
  go_quiet (fail)
  have HB := ((HM10.drop 0).drop 0).drop 0
  clear HM10 hm2 hm3 hcm0 hc1' hce0 hce2'
  by_cases hs : ∃ n T out m, TurnsTo base tracks l2 l3 n T out m
  · obtain ⟨n, T, out, m, ht⟩ := hs
    have HT := Aside0.mk ht
    clear ht
    go_upto_block 0 with (first
      | ((with_reducible refine gate_dst (N := 57) rfl ?_); (refine (HB.drewN _).loadAll 0 rfl 25 (.tmp 2) rfl _ rfl Try.underlying25 rfl (by exact infoA4) rfl ?_))
      | (go_at_call 8; (have HBd := fun q => HB.drewN q; refine (turn_calls base tracks A2 c2 l2 A3 c3 l3 _ (Kd.C_below HC2.out (HBd _).below) H2.out (Kd.C_below HC3.out (HBd _).below) H3.out).mono ?_; rintro e w11 ⟨hb, hpost⟩; obtain ⟨v2, v3, rfl, hr2, hr3⟩ := hpost.yes HT.out; obtain ⟨Am', cm', rfl⟩ := Kd.R_slice hr2; obtain ⟨Ae', ce', rfl⟩ := Kd.R_slice hr3; have HM8 := (HBd _).rows2 hb hr2 hr3; clear HBd hb hpost hr2 hr3))
      | ((with_reducible refine gate_dst (N := 8) rfl ?_); refine box_event ?hg (N := 8) ?hd (cs := #[.int .i64 0, .int .i64 0, .slice none 0 0, .slice none 0 0]) (t := 25) ?hr ?_; (case hd => rfl); (case hg => rfl); (case hr => first | (go_simp; done) | (go_simp; rfl)); intro g8 hg w12 hb hbel; have HM9 := HM8.blk_ hg hb hbel; clear HM8 hg hb hbel)
      | ((with_reducible refine gate_store (t := 25) (p := 8) rfl ?_); (refine HM9.storeAll 0 rfl rfl 25 (.tmp 8) _ rfl (us := #[.int .i64 base, .int .i64 tracks, .slice Am' (II m.1).length cm', .slice Ae' m.2.length ce']) rfl rfl (one4 rfl rfl rfl rfl) (by exact infoA4) rfl rfl ?_; intro w13 HM10; clear HM9)))
    obtain ⟨k1, x1, r1, k2, r2, hk1, hk2, hr12⟩ := HT.out.two lw (by omega)
    have HK1 := Aside0.mk hk1
    have HK2 := Aside0.mk hk2
    have HR12 := Aside0.mk hr12
    obtain ⟨ka, hka⟩ := HT.out.same
    have HKA := Aside0.mk hka
    clear hk1 hk2 hr12 hka
    have HM11 : Mem W.heap.size (fun _ => False) W w13 (blk g8 #[.int .i64 base, .int .i64 tracks, .slice Am' (II m.1).length cm', .slice Ae' m.2.length ce'] 25 :: two (row kL 26 (.slice Am' (II m.1).length cm') (II m.1)) (row kB 4 (.slice Ae' m.2.length ce') m.2) :: [blk g2 #[.int .i64 base, .int .i64 tracks, .slice A2 l2.length c2, .slice A3 l3.length c3] 25]) := HM10
    clear HM10 HB
    go_cut [10] (fun v10 wc => Mem W.heap.size (fun _ => False) W wc (row kI 3 v10 lw.reverse :: blk g8 #[.int .i64 base, .int .i64 tracks, .slice Am' (II m.1).length cm', .slice Ae' m.2.length ce'] 25 :: two (row kL 26 (.slice Am' (II m.1).length cm') (II m.1)) (row kB 4 (.slice Ae' m.2.length ce') m.2) :: [blk g2 #[.int .i64 base, .int .i64 tracks, .slice A2 l2.length c2, .slice A3 l3.length c3] 25]))
    case first =>
      go_wp2
      go_loopg [10, 11] lw.length (fun gk v10 v11 w' => ∃ z : Int, v11 = .int .i64 z ∧ Aside0 (z + 1 = gk ∧ gk ≤ lw.length) ∧ Mem W.heap.size (fun _ => False) W w' (row kI 3 v10 (lw.drop gk).reverse :: blk g8 #[.int .i64 base, .int .i64 tracks, .slice Am' (II m.1).length cm', .slice Ae' m.2.length ce'] 25 :: two (row kL 26 (.slice Am' (II m.1).length cm') (II m.1)) (row kB 4 (.slice Ae' m.2.length ce') m.2) :: [blk g2 #[.int .i64 base, .int .i64 tracks, .slice A2 l2.length c2, .slice A3 l3.length c3] 25]))
      case atStart => exact ⟨_, rfl, ⟨by omega, Nat.le_refl _⟩, by rw [List.drop_length]; exact HM11.nil kI 3⟩
      case round =>
        clear HM11
        obtain ⟨g1, rfl⟩ : ∃ x : Nat, x = gk := ⟨_, rfl⟩
        obtain ⟨w20, rfl⟩ : ∃ x : World, x = wr := ⟨_, rfl⟩
        obtain ⟨z, rfl, HK, HM⟩ := hrel
        by_cases hz : 0 ≤ z
        · obtain ⟨i, rfl⟩ : ∃ i : Nat, z = i := ⟨z.toNat, by omega⟩
          have hlt : i < lw.length := by have := HK.out; omega
          have hg1 : 1 ≤ g1 := by have := HK.out; omega
          have hxl : ((lw.drop g1).reverse.length + 1) * 8 ≤ 140737488355328 := by rw [List.length_reverse, List.length_drop]; omega
          have HXL := Aside0.mk hxl
          clear hxl
          obtain ⟨ad1, e1, hcell1⟩ := Kd.at_int (Kd.C_below HCw.out HM.below) (i : Int) (by omega) (by omega)
          subst e1
          rw [Int.toNat_natCast] at hcell1
          have hd : (lw.drop i).reverse = (lw.drop g1).reverse ++ [rd lw (i : Int)] := by
            rw [List.drop_eq_getElem_cons hlt, List.reverse_cons, show i + 1 = g1 by have := HK.out; omega]
            congr 2
            rw [rd_nat, getD_at hlt]
          obtain ⟨xv, hxv⟩ : ∃ xv, xv = rd lw (i : Int) := ⟨_, rfl⟩
          rw [← hxv] at hcell1 hd
          have HD := Aside0.mk hd
          clear hxv hd
          go_wp2_with (((with_reducible refine gate_dst (N := 76) rfl ?_); (refine HM.append1 0 rfl (.tmp 70) (.tmp 75) 26 3 (.int .i64 0) 8 rfl Try.underlying26 infoI rfl (by decide) _ (lw.drop g1).reverse xv rfl rfl rfl HXL.out ?_; intro v76 w21 HM1; clear HM; rw [← HD.out] at HM1)))
          go_roundg (g1 - 1)
          case measure => have := HK.out; omega
          case rel => exact ⟨(i : Int) - 1, rfl, ⟨by have := HK.out; omega⟩, (by rw [show g1 - 1 = i by have := HK.out; omega]; exact HM1)⟩
        · obtain rfl : g1 = 0 := by have := HK.out; omega
          rw [List.drop_zero] at HM
          go_wp2
          go_meet
          case rel => exact HM
    case rest =>
      clear HM11
      have HM := hcut
      clear hcut
      have hk2 := HK2.out
      clear HK2
      obtain ⟨rv, hrv⟩ : ∃ rv, rv = lw.reverse := ⟨_, rfl⟩
      rw [← hrv] at HM hk2
      have HK2 := Aside0.mk hk2
      clear hk2 hrv
      obtain ⟨Av, cv, ev, hcv, hCv⟩ := HM.rowSlice (i := 0) rfl
      subst ev
      have hr12' := HR12.out
      clear HR12 hCv
      rcases hr12' with ⟨e1, e2⟩ | ⟨y, y', e1, e2⟩
      · subst e1
        subst e2
        go_wp2_with (first
          | ((with_reducible refine gate_dst (N := 78) rfl ?_); (refine HM.loadAll 1 rfl 25 (.tmp 8) rfl _ rfl Try.underlying25 rfl (by exact infoA4) rfl ?_))
          | (go_at_call 9; (first
            | (have hq := HM.two_ (i := 2) rfl; refine (auto_Takes.calls k1 base tracks Am' cm' (II m.1) Ae' ce' m.2 Aw cw lw x1 none _ (Kd.R_reads' hq.1).2.2 (Kd.R_reads' hq.1).2.1 (Kd.R_reads' hq.2).2.2 (Kd.R_reads' hq.2).2.1 (Kd.C_below HCw.out HM.below) HWC.out HK1.out).mono ?_; rintro e w14 ⟨rfl, hb⟩; have HM1 := HM.grow hb; clear HM hb hq; simp only [errW_none])
            | (refine (auto_Takes.calls k2 base tracks A2 c2 l2 A3 c3 l3 Av cv rv x1 none _ (Kd.C_below HC2.out HM1.below) H2.out (Kd.C_below HC3.out HM1.below) H3.out (Kd.R_reads' (HM1.rowAt (i := 0) rfl)).2.2 (Kd.R_reads' (HM1.rowAt (i := 0) rfl)).2.1 HK2.out).mono ?_; rintro e w15 ⟨rfl, hb⟩; have HM2 := HM1.grow hb; clear HM1 hb; simp only [errW_none])))
          | ((with_reducible refine gate_dst (N := 84) rfl ?_); (refine HM1.loadAll 3 rfl 25 (.tmp 2) rfl _ rfl Try.underlying25 rfl (by exact infoA4) rfl ?_)))
        go_quiet (fail)
        have HM2b := HM2.drewN nq
        clear HM2
        generalize w15.drewN nq = w15b at HM2b ⊢
        go_wp2_with (first
          | ((with_reducible refine gate_dst (N := 100) rfl ?_); (refine HM2b.loadAll 1 rfl 25 (.tmp 8) rfl _ rfl Try.underlying25 rfl (by exact infoA4) rfl ?_))
          | (go_at_call 8; (have hq := HM2b.two_ (i := 2) rfl; refine (turn_calls base tracks Am' cm' (II m.1) Ae' ce' m.2 _ (Kd.R_reads' hq.1).2.2 (Kd.R_reads' hq.1).2.1 (Kd.R_reads' hq.2).2.2 (Kd.R_reads' hq.2).2.1).mono ?_; rintro e w16 ⟨hb, hpost⟩; obtain ⟨v2, v3, rfl, hr2, hr3⟩ := hpost.yes HT.out.again; obtain ⟨At, ct, rfl⟩ := Kd.R_slice hr2; obtain ⟨At', ct', rfl⟩ := Kd.R_slice hr3; have HM3 := HM2b.rows2 hb hr2 hr3; clear HM2b hb hpost hr2 hr3 hq))
          | ((with_reducible refine gate_dst (N := 16) rfl ?_); refine box_event ?hg (N := 16) ?hd (cs := #[.int .i64 0, .int .i64 0, .slice none 0 0, .slice none 0 0]) (t := 25) ?hr ?_; (case hd => rfl); (case hg => rfl); (case hr => first | (go_simp; done) | (go_simp; rfl)); intro g16 hg w17 hb hbel; have HM4 := HM3.blk_ hg hb hbel; clear HM3 hg hb hbel)
          | ((with_reducible refine gate_store (t := 25) (p := 16) rfl ?_); (refine HM4.storeAll 0 rfl rfl 25 (.tmp 16) _ rfl (us := #[.int .i64 base, .int .i64 tracks, .slice At (II out.1).length ct, .slice At' out.2.length ct']) rfl rfl (one4 rfl rfl rfl rfl) (by exact infoA4) rfl rfl ?_; intro w18 HM5; clear HM4))
          | ((with_reducible refine gate_dst (N := 105) rfl ?_); (refine HM5.loadAll 5 rfl 25 (.tmp 2) rfl _ rfl Try.underlying25 rfl (by exact infoA4) rfl ?_))
          | (go_at_call 10; (refine (least_calls base tracks A2 c2 l2 A3 c3 l3 _ (Kd.C_below HC2.out HM5.below) H2.out (Kd.C_below HC3.out HM5.below) H3.out).mono ?_; rintro e w19 ⟨hb, hcase⟩; have hcase2 : ∃ v2 v3 : Value, e = .returned (.tuple #[.agg #[.int .i64 base, .int .i64 tracks, v2, v3], .nilIface]) ∧ kL.R 26 w19 w18.heap.size (fun _ => True) v2 (II out.1) ∧ kB.R 4 w19 w18.heap.size (fun _ => True) v3 out.2 := (by rcases hcase with ⟨n', T', out', v2, v3, h1, h2, h3, h4, h5⟩ | ⟨h1, _⟩; (obtain ⟨rfl, rfl, rfl⟩ := turn_uniq HT.out.1 HT.out.2.1 h1 h2; exact ⟨v2, v3, h3, h4, h5⟩); (exact absurd ⟨n, T, HT.out.1⟩ h1)); obtain ⟨v2, v3, rfl, hr2, hr3⟩ := hcase2; obtain ⟨Al, cl, rfl⟩ := Kd.R_slice hr2; obtain ⟨Al', cl', rfl⟩ := Kd.R_slice hr3; have HM6 := HM5.rows2 hb hr2 hr3; clear HM5 hb hcase hr2 hr3))
          | ((with_reducible refine gate_dst (N := 17) rfl ?_); refine box_event ?hg (N := 17) ?hd (cs := #[.int .i64 0, .int .i64 0, .slice none 0 0, .slice none 0 0]) (t := 25) ?hr ?_; (case hd => rfl); (case hg => rfl); (case hr => first | (go_simp; done) | (go_simp; rfl)); intro g17 hg w20 hb hbel; have HM7 := HM6.blk_ hg hb hbel; clear HM6 hg hb hbel)
          | ((with_reducible refine gate_store (t := 25) (p := 17) rfl ?_); (refine HM7.storeAll 0 rfl rfl 25 (.tmp 17) _ rfl (us := #[.int .i64 base, .int .i64 tracks, .slice Al (II out.1).length cl, .slice Al' out.2.length cl']) rfl rfl (one4 rfl rfl rfl rfl) (by exact infoA4) rfl rfl ?_; intro w21 HM8; clear HM7))
          | ((with_reducible refine gate_dst (N := 109) rfl ?_); (refine HM8.loadAll 2 rfl 25 (.tmp 16) rfl _ rfl Try.underlying25 rfl (by exact infoA4) rfl ?_))
          | ((with_reducible refine gate_dst (N := 110) rfl ?_); (refine HM8.loadAll 0 rfl 25 (.tmp 17) rfl _ rfl Try.underlying25 rfl (by exact infoA4) rfl ?_))
          | (go_at_call 11; (have hq := HM8.two_ (i := 3) rfl; have hp := HM8.two_ (i := 1) rfl; refine (filbertsame_Autos.calls ka base tracks At ct (II out.1) At' ct' out.2 base tracks Al cl (II out.1) Al' cl' out.2 true _ (Kd.R_reads' hq.1).2.2 (Kd.R_reads' hq.1).2.1 (Kd.R_reads' hq.2).2.2 (Kd.R_reads' hq.2).2.1 (Kd.R_reads' hp.1).2.2 (Kd.R_reads' hp.1).2.1 (Kd.R_reads' hp.2).2.2 (Kd.R_reads' hp.2).2.1 HKA.out).mono ?_; rintro e w22 ⟨rfl, hb⟩; have HM9 := HM8.grow hb; clear HM8 hb hq hp)))
        refine bodyPost_ret (results_single rfl (.tmp .nil)) (by rfl) ⟨rfl, HM9.below⟩
      · subst e1
        subst e2
        go_wp2_with (first
          | ((with_reducible refine gate_dst (N := 78) rfl ?_); (refine HM.loadAll 1 rfl 25 (.tmp 8) rfl _ rfl Try.underlying25 rfl (by exact infoA4) rfl ?_))
          | (go_at_call 9; (first
            | (have hq := HM.two_ (i := 2) rfl; refine (auto_Takes.calls k1 base tracks Am' cm' (II m.1) Ae' ce' m.2 Aw cw lw x1 (some y) _ (Kd.R_reads' hq.1).2.2 (Kd.R_reads' hq.1).2.1 (Kd.R_reads' hq.2).2.2 (Kd.R_reads' hq.2).2.1 (Kd.C_below HCw.out HM.below) HWC.out HK1.out).mono ?_; rintro e w14 ⟨rfl, hb⟩; have HM1 := HM.grow hb; clear HM hb hq; simp only [errW_some])
            | (refine (auto_Takes.calls k2 base tracks A2 c2 l2 A3 c3 l3 Av cv rv x1 (some y') _ (Kd.C_below HC2.out HM1.below) H2.out (Kd.C_below HC3.out HM1.below) H3.out (Kd.R_reads' (HM1.rowAt (i := 0) rfl)).2.2 (Kd.R_reads' (HM1.rowAt (i := 0) rfl)).2.1 HK2.out).mono ?_; rintro e w15 ⟨rfl, hb⟩; have HM2 := HM1.grow hb; clear HM1 hb; simp only [errW_some])))
          | ((with_reducible refine gate_dst (N := 84) rfl ?_); (refine HM1.loadAll 3 rfl 25 (.tmp 2) rfl _ rfl Try.underlying25 rfl (by exact infoA4) rfl ?_)))
        go_quiet (fail)
        have HM2b := HM2.drewN nq
        clear HM2
        generalize w15.drewN nq = w15b at HM2b ⊢
        go_wp2_with (first
          | ((with_reducible refine gate_dst (N := 100) rfl ?_); (refine HM2b.loadAll 1 rfl 25 (.tmp 8) rfl _ rfl Try.underlying25 rfl (by exact infoA4) rfl ?_))
          | (go_at_call 8; (have hq := HM2b.two_ (i := 2) rfl; refine (turn_calls base tracks Am' cm' (II m.1) Ae' ce' m.2 _ (Kd.R_reads' hq.1).2.2 (Kd.R_reads' hq.1).2.1 (Kd.R_reads' hq.2).2.2 (Kd.R_reads' hq.2).2.1).mono ?_; rintro e w16 ⟨hb, hpost⟩; obtain ⟨v2, v3, rfl, hr2, hr3⟩ := hpost.yes HT.out.again; obtain ⟨At, ct, rfl⟩ := Kd.R_slice hr2; obtain ⟨At', ct', rfl⟩ := Kd.R_slice hr3; have HM3 := HM2b.rows2 hb hr2 hr3; clear HM2b hb hpost hr2 hr3 hq))
          | ((with_reducible refine gate_dst (N := 16) rfl ?_); refine box_event ?hg (N := 16) ?hd (cs := #[.int .i64 0, .int .i64 0, .slice none 0 0, .slice none 0 0]) (t := 25) ?hr ?_; (case hd => rfl); (case hg => rfl); (case hr => first | (go_simp; done) | (go_simp; rfl)); intro g16 hg w17 hb hbel; have HM4 := HM3.blk_ hg hb hbel; clear HM3 hg hb hbel)
          | ((with_reducible refine gate_store (t := 25) (p := 16) rfl ?_); (refine HM4.storeAll 0 rfl rfl 25 (.tmp 16) _ rfl (us := #[.int .i64 base, .int .i64 tracks, .slice At (II out.1).length ct, .slice At' out.2.length ct']) rfl rfl (one4 rfl rfl rfl rfl) (by exact infoA4) rfl rfl ?_; intro w18 HM5; clear HM4))
          | ((with_reducible refine gate_dst (N := 105) rfl ?_); (refine HM5.loadAll 5 rfl 25 (.tmp 2) rfl _ rfl Try.underlying25 rfl (by exact infoA4) rfl ?_))
          | (go_at_call 10; (refine (least_calls base tracks A2 c2 l2 A3 c3 l3 _ (Kd.C_below HC2.out HM5.below) H2.out (Kd.C_below HC3.out HM5.below) H3.out).mono ?_; rintro e w19 ⟨hb, hcase⟩; have hcase2 : ∃ v2 v3 : Value, e = .returned (.tuple #[.agg #[.int .i64 base, .int .i64 tracks, v2, v3], .nilIface]) ∧ kL.R 26 w19 w18.heap.size (fun _ => True) v2 (II out.1) ∧ kB.R 4 w19 w18.heap.size (fun _ => True) v3 out.2 := (by rcases hcase with ⟨n', T', out', v2, v3, h1, h2, h3, h4, h5⟩ | ⟨h1, _⟩; (obtain ⟨rfl, rfl, rfl⟩ := turn_uniq HT.out.1 HT.out.2.1 h1 h2; exact ⟨v2, v3, h3, h4, h5⟩); (exact absurd ⟨n, T, HT.out.1⟩ h1)); obtain ⟨v2, v3, rfl, hr2, hr3⟩ := hcase2; obtain ⟨Al, cl, rfl⟩ := Kd.R_slice hr2; obtain ⟨Al', cl', rfl⟩ := Kd.R_slice hr3; have HM6 := HM5.rows2 hb hr2 hr3; clear HM5 hb hcase hr2 hr3))
          | ((with_reducible refine gate_dst (N := 17) rfl ?_); refine box_event ?hg (N := 17) ?hd (cs := #[.int .i64 0, .int .i64 0, .slice none 0 0, .slice none 0 0]) (t := 25) ?hr ?_; (case hd => rfl); (case hg => rfl); (case hr => first | (go_simp; done) | (go_simp; rfl)); intro g17 hg w20 hb hbel; have HM7 := HM6.blk_ hg hb hbel; clear HM6 hg hb hbel)
          | ((with_reducible refine gate_store (t := 25) (p := 17) rfl ?_); (refine HM7.storeAll 0 rfl rfl 25 (.tmp 17) _ rfl (us := #[.int .i64 base, .int .i64 tracks, .slice Al (II out.1).length cl, .slice Al' out.2.length cl']) rfl rfl (one4 rfl rfl rfl rfl) (by exact infoA4) rfl rfl ?_; intro w21 HM8; clear HM7))
          | ((with_reducible refine gate_dst (N := 109) rfl ?_); (refine HM8.loadAll 2 rfl 25 (.tmp 16) rfl _ rfl Try.underlying25 rfl (by exact infoA4) rfl ?_))
          | ((with_reducible refine gate_dst (N := 110) rfl ?_); (refine HM8.loadAll 0 rfl 25 (.tmp 17) rfl _ rfl Try.underlying25 rfl (by exact infoA4) rfl ?_))
          | (go_at_call 11; (have hq := HM8.two_ (i := 3) rfl; have hp := HM8.two_ (i := 1) rfl; refine (filbertsame_Autos.calls ka base tracks At ct (II out.1) At' ct' out.2 base tracks Al cl (II out.1) Al' cl' out.2 true _ (Kd.R_reads' hq.1).2.2 (Kd.R_reads' hq.1).2.1 (Kd.R_reads' hq.2).2.2 (Kd.R_reads' hq.2).2.1 (Kd.R_reads' hp.1).2.2 (Kd.R_reads' hp.1).2.1 (Kd.R_reads' hp.2).2.2 (Kd.R_reads' hp.2).2.1 HKA.out).mono ?_; rintro e w22 ⟨rfl, hb⟩; have HM9 := HM8.grow hb; clear HM8 hb hq hp)))
        refine bodyPost_ret (results_single rfl (.tmp .nil)) (by rfl) ⟨rfl, HM9.below⟩
  · have HN := Aside0.mk hs
    clear hs
    go_wp2_with (first
      | ((with_reducible refine gate_dst (N := 57) rfl ?_); (refine (HB.drewN _).loadAll 0 rfl 25 (.tmp 2) rfl _ rfl Try.underlying25 rfl (by exact infoA4) rfl ?_))
      | (go_at_call 8; (have HBd := fun q => HB.drewN q; refine (turn_calls base tracks A2 c2 l2 A3 c3 l3 _ (Kd.C_below HC2.out (HBd _).below) H2.out (Kd.C_below HC3.out (HBd _).below) H3.out).mono ?_; rintro e w11 ⟨hb, hpost⟩; obtain ⟨x, rfl⟩ := hpost.no HN.out; have HM8 := (HBd _).grow hb; clear HBd hb hpost; simp only [errW_some]))
      | ((with_reducible refine gate_dst (N := 8) rfl ?_); refine box_event ?hg (N := 8) ?hd (cs := #[.int .i64 0, .int .i64 0, .slice none 0 0, .slice none 0 0]) (t := 25) ?hr ?_; (case hd => rfl); (case hg => rfl); (case hr => first | (go_simp; done) | (go_simp; rfl)); intro g8 hg w12 hb hbel; have HM9 := HM8.blk_ hg hb hbel; clear HM8 hg hb hbel)
      | ((with_reducible refine gate_store (t := 25) (p := 8) rfl ?_); (refine HM9.storeAll 0 rfl rfl 25 (.tmp 8) _ rfl (us := #[.int .i64 0, .int .i64 0, .slice none 0 0, .slice none 0 0]) rfl rfl (one4 rfl rfl rfl rfl) (by exact infoA4) rfl rfl ?_; intro w13 HM10; clear HM9)))
    refine bodyPost_ret (results_single rfl (.tmp .nil)) (by rfl) ⟨rfl, HM10.below⟩
end Go.Proofs.Ytlffephcbfdknaa.Wk
