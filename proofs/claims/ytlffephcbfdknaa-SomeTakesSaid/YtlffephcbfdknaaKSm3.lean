/- Walk by hand: the law SomeTakes. -/
import Derived.Test.YtlffephcbfdknaaK8
import Derived.Test.YtlffephcbfdknaaK7
import Derived.Deep.QuietTactic
import Derived.BigQuiet
set_option linter.unusedVariables false
set_option linter.unusedSimpArgs false
namespace Go.Proofs.Ytlffephcbfdknaa.Wk
open Go.RowKit Go.Proofs.YtlffephcbfdknaaW.PrintWords Go.Proofs.YtlffephcbfdknaaW.PrintMore Go.Proofs.YtlffephcbfdknaaW.PrintLast Go.Proofs.Sep Go.Proofs.Fil Go.Proofs.Ytlffephcbfdknaa.Chk Go.Proofs.Ytlffephcbfdknaa.PSomeTakes Go.Proofs.Ytlffephcbfdknaa.Tbl

set_option maxRecDepth 100000 in
set_option maxHeartbeats 4000000 in
theorem someTakes_calls (base tracks : Int) (A2 : Option Addr) (c2 : Nat) (l2 : List (List Int)) (A3 : Option Addr) (c3 : Nat) (l3 : List Bool) (track : Int) (Aw : Option Addr) (cw : Nat) (lw : List Int) (W : World) (hC2 : kL.C W A2 l2.length l2) (h2 : l2.length ≤ c2) (hC3 : kB.C W A3 l3.length l3) (h3 : l3.length ≤ c3) (hCw : kI.C W Aw lw.length lw) (hw : lw.length ≤ cw) (hlw : lw.length * 8 ≤ 140737488355328) :
    Calls Try.prog 4 #[.agg #[.int .i64 base, .int .i64 tracks, .slice A2 l2.length c2, .slice A3 l3.length c3], .int .i64 track, .slice Aw lw.length cw] W fun e w' => e = .returned (.bool true) ∧ Below W.heap.size W w' := by
  have HC2 := Aside0.mk hC2
  have HC3 := Aside0.mk hC3
  have HCw := Aside0.mk hCw
  have H2 := Aside0.mk h2
  have H3 := Aside0.mk h3
  have HWC := Aside0.mk hw
  clear hC2 hC3 h2 h3 hCw hw
  have HM := Mem.start W
  go_enter Try.func4, Try.ntmps4
  go_upto_region 4 with (first
    | ((with_reducible refine gate_dst (N := 3) rfl ?_); refine box_event ?hg (N := 3) ?hd (cs := #[.int .i64 base, .int .i64 tracks, .slice A2 l2.length c2, .slice A3 l3.length c3]) (t := 25) ?hr ?_; (case hd => rfl); (case hg => rfl); (case hr => first | (go_simp; done) | (go_simp; rfl)); intro g3 hg w1 hb hbel; have HM1 := HM.blk_ hg hb hbel; clear HM hg hb hbel)
    | (go_at_call 13; (refine (same_calls _).mono ?_; rintro e w2 ⟨v2, v3, rfl, hr2, hr3, hb⟩; obtain ⟨Aa, ca, rfl⟩ := Kd.R_slice hr2; obtain ⟨Ab, cb, rfl⟩ := Kd.R_slice hr3; have HM2 := HM1.rows2 hb hr2 hr3; clear HM1 hb hr2 hr3))
    | (go_at_call 12; (have hq := HM2.two_ (i := 0) rfl; refine (some_calls 2 2 Aa ca (II S0) Ab cb s0 0 _ (Kd.R_reads' hq.1).2.2 (Kd.R_reads' hq.1).2.1 (Kd.R_reads' hq.2).2.2 (Kd.R_reads' hq.2).2.1).mono ?_; rintro e w3 ⟨hb, hpost⟩; obtain ⟨v2, v3, rfl, hr2, hr3⟩ := hpost.yes somes0; obtain ⟨Am, cm, rfl⟩ := Kd.R_slice hr2; obtain ⟨Ae, ce, rfl⟩ := Kd.R_slice hr3; have HM3 := HM2.rows2 hb hr2 hr3; clear HM2 hb hpost hr2 hr3 hq))
    | ((with_reducible refine gate_dst (N := 7) rfl ?_); refine box_event ?hg (N := 7) ?hd (cs := #[.int .i64 0, .int .i64 0, .slice none 0 0, .slice none 0 0]) (t := 25) ?hr ?_; (case hd => rfl); (case hg => rfl); (case hr => first | (go_simp; done) | (go_simp; rfl)); intro g7 hg w4 hb hbel; have HM4 := HM3.blk_ hg hb hbel; clear HM3 hg hb hbel)
    | ((with_reducible refine gate_store (t := 25) (p := 7) rfl ?_); (refine HM4.storeAll 0 rfl rfl 25 (.tmp 7) _ rfl (us := #[.int .i64 2, .int .i64 (2 - 1), .slice Am 1 cm, .slice Ae 1 ce]) rfl rfl (one4 rfl rfl rfl rfl) (by exact infoA4) rfl rfl ?_; intro w5 HM5; clear HM4; have hq := HM5.two_ (i := 1) rfl; have hm2 : w5.cell? ⟨g7, 2, none⟩ = some (.slice Am 1 cm) := (HM5.cell (i := 0) rfl 2).1; have hm3 : w5.cell? ⟨g7, 3, none⟩ = some (.slice Ae 1 ce) := (HM5.cell (i := 0) rfl 3).1; obtain ⟨ae, ee, hce⟩ := Kd.at_bool (Kd.R_reads' hq.2).2.2 (0 : Int) (by decide) (by decide); subst ee; have hce0 : w5.cell? ae = some (.bool true) := (by have h := hce; rw [show (0 : Int).toNat = 0 from rfl, Addr.add, if_pos rfl] at h; exact h); clear hce hq)))
  have HB : Mem W.heap.size (fun _ => False) W w5 [blk g3 #[.int .i64 base, .int .i64 tracks, .slice A2 l2.length c2, .slice A3 l3.length c3] 25] := ((HM5.drop 0).drop 0).drop 0
  clear HM5 hm2 hm3 hce0
  by_cases hs : ∃ n T out tr m, SomesTo base tracks l2 l3 track n T out tr m
  · obtain ⟨n, T, out, tr, m, ht⟩ := hs
    have hok := ht.1
    obtain rfl : track = ((tr : Nat) : Int) := ht.2.2.1
    have htl : ((tr : Nat) : Int) < tracks := ht.2.2.2.1
    have hn36 := manyN_le (many_less hok.many (by omega))
    have HT := Aside0.mk ht
    clear ht
    obtain ⟨k1, x1, r1, hk1, hy, _⟩ := takes_spec base (tracks - 1) (II m.1) m.2 lw (by omega)
    have hy := hy (sN base tracks) m.1 HT.out.ok
    have HK1 := Aside0.mk hk1
    clear hk1 hok
    by_cases hwok : WordOk (sN base tracks) lw
    · obtain ⟨hx1, rfl⟩ := hy.1 hwok
      have HX1 := Aside0.mk hx1
      have HWOK := Aside0.mk hwok
      clear hy hx1 hwok
      have hok := HT.out.1
      have hwf := hok.wf
      have hs0 : 0 < sN base tracks := hn36.1
      have hl2 : l2.length = T.length := by rw [hok.eq, II_len]
      have hl3 : l3.length = T.length := hwf.len
      have hT80 := hok.small
      have hTp := hwf.pos
      have hn := manyN_le hok.many
      have hwt : ∀ l, l < sN base tracks → ∀ k ∈ sW base tracks tr l, k < n := wtab_lt hok.many htl
      have hwl : ∀ l, (sW base tracks tr l).length ≤ 6 := fun l => by
        unfold sW
        rw [wtab_len]
        exact radix_le base
      have hWo : ∀ l, l < sN base tracks → ∀ w : World, Calls Try.prog 14 #[.int .i64 base, .int .i64 tracks, .int .i64 (tr : Int), .int .i64 (l : Int)] w fun e w' => ∃ v', e = .returned v' ∧ kI.R 3 w' w.heap.size (fun _ => True) v' (I (sW base tracks tr l)) ∧ Below w.heap.size w w' := fun l hl w => without_calls base tracks n hok.many tr htl l hl w
      have hW0 : ∀ w : World, Calls Try.prog 14 #[.int .i64 base, .int .i64 tracks, .int .i64 (tr : Int), .int .i64 0] w fun e w' => ∃ v', e = .returned v' ∧ kI.R 3 w' w.heap.size (fun _ => True) v' (I (sW base tracks tr 0)) ∧ Below w.heap.size w w' := fun w => hWo 0 hs0 w
      have hC2' : kL.C W A2 (II T).length (II T) := by rw [← hok.eq]; exact HC2.out
      have HC2' := Aside0.mk hC2'
      have HOK := Aside0.mk hok
      have HWF := Aside0.mk hwf
      have HL2 := Aside0.mk hl2
      have HL3 := Aside0.mk hl3
      have HREP := Aside0.mk (show List.replicate l2.length false = metOf T.length [] by rw [hl2, metOf_nil])
      have HWT := Aside0.mk hwt
      have HWL := Aside0.mk hwl
      have HWo := Aside0.mk hWo
      have HW0 := Aside0.mk hW0
      have hN1 : l2.length ≤ T.length := by omega
      have hN2 : T.length ≤ l2.length := by omega
      have hN3 : (l2.length : Int) ≤ (T.length : Int) := by omega
      have hN4 : (T.length : Int) ≤ (l2.length : Int) := by omega
      have hTpI : (0 : Int) < (T.length : Int) := by omega
      obtain ⟨ze, hze⟩ : ∃ ze, ze = sW base tracks tr 0 := ⟨_, rfl⟩
      have hzn : ∀ k ∈ ze, k < n := by rw [hze]; exact hwt 0 hs0
      have hzl : ze.length ≤ 6 := by rw [hze]; exact hwl 0
      have HZN := Aside0.mk hzn
      have HZE := Aside0.mk hze
      clear hok hwf hl2 hl3 hwt hwl hWo hW0 hC2' hzn hze
      go_upto_block 0 with (first
        | ((with_reducible refine gate_dst (N := 46) rfl ?_); (refine HB.loadAll 0 rfl 25 (.tmp 3) rfl _ rfl Try.underlying25 rfl (by exact infoA4) rfl ?_))
        | (go_at_call 12; (refine (some_calls base tracks A2 c2 l2 A3 c3 l3 _ _ (Kd.C_below HC2.out HB.below) H2.out (Kd.C_below HC3.out HB.below) H3.out).mono ?_; rintro e w6 ⟨hb, hpost⟩; obtain ⟨v2, v3, rfl, hr2, hr3⟩ := hpost.yes HT.out; obtain ⟨Am', cm', rfl⟩ := Kd.R_slice hr2; obtain ⟨Ae', ce', rfl⟩ := Kd.R_slice hr3; have HM6 := HB.rows2 hb hr2 hr3; clear HB hb hpost hr2 hr3))
        | ((with_reducible refine gate_dst (N := 9) rfl ?_); refine box_event ?hg (N := 9) ?hd (cs := #[.int .i64 0, .int .i64 0, .slice none 0 0, .slice none 0 0]) (t := 25) ?hr ?_; (case hd => rfl); (case hg => rfl); (case hr => first | (go_simp; done) | (go_simp; rfl)); intro g9 hg w7 hb hbel; have HM7 := HM6.blk_ hg hb hbel; clear HM6 hg hb hbel)
        | ((with_reducible refine gate_store (t := 25) (p := 9) rfl ?_); (refine HM7.storeAll 0 rfl rfl 25 (.tmp 9) _ rfl (us := #[.int .i64 base, .int .i64 (tracks - 1), .slice Am' (II m.1).length cm', .slice Ae' m.2.length ce']) rfl rfl (one4 rfl rfl rfl rfl) (by exact infoA4) rfl rfl ?_; intro w8 HM8; clear HM7))
        | ((with_reducible refine gate_dst (N := 54) rfl ?_); (refine HM8.loadAll 0 rfl 25 (.tmp 9) rfl _ rfl Try.underlying25 rfl (by exact infoA4) rfl ?_))
        | (go_at_call 9; (have hq := HM8.two_ (i := 1) rfl; refine (auto_Takes.calls k1 base (tracks - 1) Am' cm' (II m.1) Ae' ce' m.2 Aw cw lw x1 none _ (Kd.R_reads' hq.1).2.2 (Kd.R_reads' hq.1).2.1 (Kd.R_reads' hq.2).2.2 (Kd.R_reads' hq.2).2.1 (Kd.C_below HCw.out HM8.below) HWC.out HK1.out).mono ?_; rintro e w9 ⟨rfl, hb⟩; have HM9 := (((HM8.grow hb).drop 0).drop 0); clear HM8 hb hq; simp only [errW_none]; have hc0 : w9.cell? ⟨g3, 0, none⟩ = some (.int .i64 base) := (HM9.cell (i := 0) rfl 0).1; have hc1 : w9.cell? ⟨g3, 1, none⟩ = some (.int .i64 tracks) := (HM9.cell (i := 0) rfl 1).1; have hc2 : w9.cell? ⟨g3, 2, none⟩ = some (.slice A2 l2.length c2) := (HM9.cell (i := 0) rfl 2).1))
        | ((with_reducible refine gate_dst (N := 64) rfl ?_); (refine HM9.make kB 4 rfl (N := 64) rfl 23 _ _ rfl (l2.length : Int) rfl rfl Try.underlying23 (.bool false) 1 infoB rfl (by decide) (by decide) false rfl (by omega) (by rw [Int.toNat_natCast]; omega) ?_; intro v64 w10 HM10; clear HM9 hc0 hc1 hc2; rw [Int.toNat_natCast, HREP.out] at HM10; obtain ⟨gh, ch, em, ech⟩ := HM10.rowForm (i := 0) rfl (by rw [metOf_len]; exact hTp); subst em; rw [metOf_len] at HM10 ech ⊢))
        | ((with_reducible refine gate_store (t := 4) (p := 66) rfl ?_); (refine HM10.store1 0 rfl rfl 4 (.tmp 66) _ rfl 4 (metOf T.length []) true rfl rfl rfl infoB1 rfl (by rw [metOf_len]; exact hTp) ?_; intro w11 HM11; clear HM10; rw [metOf_set] at HM11; have hc0 : w11.cell? ⟨g3, 0, none⟩ = some (.int .i64 base) := (HM11.cell (i := 1) rfl 0).1; have hc1 : w11.cell? ⟨g3, 1, none⟩ = some (.int .i64 tracks) := (HM11.cell (i := 1) rfl 1).1))
        | (go_at_call 14; (refine (HW0.out _).mono ?_; rintro e w12 ⟨v72, rfl, hr, hb⟩; rw [← HZE.out] at hr; have HM12 := HM11.row_ hb hr; clear HM11 hb hr hc0 hc1; obtain ⟨Az, cz, ez, hcz, _⟩ := HM12.rowSlice (i := 0) rfl; subst ez; rw [I_len] at HM12 hcz ⊢)))
      have HM13 : Mem W.heap.size (fun _ => False) W w12 [row kI 3 (.slice Az ze.length cz) (I ze), row kB 4 (.slice (some ⟨gh, 0, none⟩) T.length ch) (metOf T.length [0]), blk g3 #[.int .i64 base, .int .i64 tracks, .slice A2 l2.length c2, .slice A3 l3.length c3] 25] := HM12
      clear HM12
      go_cut [] (fun wc => ∃ o, (∀ x, x ∈ o ↔ x ∈ firstS T ze) ∧ Mem W.heap.size (fun _ => False) W wc [row kB 4 (.slice (some ⟨gh, 0, none⟩) T.length ch) (metOf T.length o), blk g3 #[.int .i64 base, .int .i64 tracks, .slice A2 l2.length c2, .slice A3 l3.length c3] 25])
      case first =>
        go_wp2
        go_loopg [15, 16, 17] T.length (fun gk v15 v16 v17 w' => ∃ (k : Nat) (o : List Nat), v15 = .int .i64 (k : Int) ∧ Aside0 (gk + k = T.length ∧ Clos T ze k o) ∧ Mem W.heap.size (fun _ => False) W w' [row kI 3 (.slice Az ze.length cz) (I ze), row kB 4 (.slice (some ⟨gh, 0, none⟩) T.length ch) (metOf T.length o), blk g3 #[.int .i64 base, .int .i64 tracks, .slice A2 l2.length c2, .slice A3 l3.length c3] 25])
        case atStart => exact ⟨0, [0], rfl, ⟨by omega, clos_start⟩, HM13⟩
        case round =>
          clear HM13
          obtain ⟨g1, rfl⟩ : ∃ x : Nat, x = gk := ⟨_, rfl⟩
          obtain ⟨w20, rfl⟩ : ∃ x : World, x = wr := ⟨_, rfl⟩
          obtain ⟨k, o, rfl, HK, HM⟩ := hrel
          have hc2 : w20.cell? ⟨g3, 2, none⟩ = some (.slice A2 l2.length c2) := (HM.cell (i := 2) rfl 2).1
          have hkT : k ≤ T.length := by have := HK.out.1; omega
          by_cases hlt : k < T.length
          · have hltI : (k : Int) < (l2.length : Int) := by omega
            go_wp2
            go_loopg [16, 17] T.length (fun gk v16 v17 w' => ∃ (s : Nat) (o : List Nat), v16 = .int .i64 (s : Int) ∧ Aside0 (gk + s = T.length ∧ ClosS T ze k s o) ∧ Mem W.heap.size (fun _ => False) W w' [row kI 3 (.slice Az ze.length cz) (I ze), row kB 4 (.slice (some ⟨gh, 0, none⟩) T.length ch) (metOf T.length o), blk g3 #[.int .i64 base, .int .i64 tracks, .slice A2 l2.length c2, .slice A3 l3.length c3] 25])
            case atStart => exact ⟨0, o, rfl, ⟨by omega, closS_zero HK.out.2⟩, HM⟩
            case round =>
              clear HM hc2
              obtain ⟨g2, rfl⟩ : ∃ x : Nat, x = gk := ⟨_, rfl⟩
              obtain ⟨w21, rfl⟩ : ∃ x : World, x = wr := ⟨_, rfl⟩
              obtain ⟨s, o, rfl, HKs, HM⟩ := hrel
              have hc2 : w21.cell? ⟨g3, 2, none⟩ = some (.slice A2 l2.length c2) := (HM.cell (i := 2) rfl 2).1
              have hsT : s ≤ T.length := by have := HKs.out.1; omega
              by_cases hslt : s < T.length
              · have hsI : (s : Int) < (l2.length : Int) := by omega
                have hsI2 : (s : Int) < (T.length : Int) := by omega
                go_wp2
                go_loopg [17] ze.length (fun gk v17 w' => ∃ (i : Nat) (o : List Nat), v17 = .int .i64 (i : Int) ∧ Aside0 (gk + i = ze.length ∧ ClosI T ze k s i o) ∧ Mem W.heap.size (fun _ => False) W w' [row kI 3 (.slice Az ze.length cz) (I ze), row kB 4 (.slice (some ⟨gh, 0, none⟩) T.length ch) (metOf T.length o), blk g3 #[.int .i64 base, .int .i64 tracks, .slice A2 l2.length c2, .slice A3 l3.length c3] 25])
                case atStart => exact ⟨0, o, rfl, ⟨by omega, closI_zero HKs.out.2⟩, HM⟩
                case round =>
                  clear HM hc2
                  obtain ⟨g4, rfl⟩ : ∃ x : Nat, x = gk := ⟨_, rfl⟩
                  obtain ⟨w22, rfl⟩ : ∃ x : World, x = wr := ⟨_, rfl⟩
                  obtain ⟨i, o, rfl, HKi, HM⟩ := hrel
                  have hiz : i ≤ ze.length := by have := HKi.out.1; omega
                  have hch := (HM.rowCell false (i := 1) (j := s) rfl (by rw [metOf_len]; exact hslt)).1
                  rw [metOf_get o hslt] at hch
                  by_cases hilt : i < ze.length
                  · have hiI : (i : Int) < (ze.length : Int) := by omega
                    by_cases hso : s ∈ o
                    · rw [decide_eq_true hso] at hch
                      have HSO := Aside0.mk hso
                      clear hso
                      obtain ⟨ad1, e1, hcell1⟩ := Kd.at_int (Kd.R_reads' (HM.rowAt (i := 0) rfl)).2.2 (i : Int) (by omega) (by rw [I_len]; omega)
                      subst e1
                      rw [Int.toNat_natCast, rd_I] at hcell1
                      obtain ⟨q, hq⟩ : ∃ q, q = ze.getD i 0 := ⟨_, rfl⟩
                      rw [← hq] at hcell1
                      have hqn : q < n := HZN.out q (by rw [hq, getD_at hilt]; exact List.getElem_mem hilt)
                      obtain ⟨ad2, A5, c5, e2, hcell2, _, hC5⟩ := row_at (Kd.C_below HC2'.out HM.below) (i := s) hslt
                      subst e2
                      have hrl : (T.getD s []).length = n := HWF.out.row_len hslt
                      obtain ⟨r, hr⟩ : ∃ r, r = T.getD s [] := ⟨_, rfl⟩
                      rw [← hr] at hcell2 hC5 hrl
                      rw [I_len, hrl] at hcell2
                      obtain ⟨ad5, e5, hcell5⟩ := Kd.at_int hC5 (q : Int) (by omega) (by rw [I_len, hrl]; omega)
                      subst e5
                      rw [Int.toNat_natCast, rd_I] at hcell5
                      obtain ⟨t, ht⟩ : ∃ t, t = r.getD q 0 := ⟨_, rfl⟩
                      rw [← ht] at hcell5
                      have htx : t = nx T s q := by rw [ht, hr]; rfl
                      have htT : t < T.length := by rw [htx]; exact HWF.out.nx_lt hslt hqn
                      have htI : (t : Int) < (T.length : Int) := by omega
                      have hqI : (q : Int) < (n : Int) := by omega
                      have hc2 : w22.cell? ⟨g3, 2, none⟩ = some (.slice (some ad2) l2.length c2) := (HM.cell (i := 2) rfl 2).1
                      have HQ := Aside0.mk hq
                      have HTX := Aside0.mk htx
                      have HM4 := HM.grow (Below.refl _ _).drew
                      clear HM hq htx ht hr hC5 hrl
                      go_wp2_with fail
                      refine start_ (n := 14) (S := fun w' => w'.cell? ⟨g3, 2, none⟩ = some (.slice (some ad2) l2.length c2) ∧ w'.cell? (ad2.add s) = some (.slice (some ad5) n c5) ∧ w'.cell? (ad1.add i) = some (.int .i64 (q : Int)) ∧ w'.cell? (ad5.add q) = some (.int .i64 (t : Int))) (ds := [13]) #[false, false, false, false, false, false, false, false, false, false, false, false, false, false] (by kernel_rfl) rfl rfl ⟨hc2, hcell2, hcell1, hcell5⟩ (fun hHeld => ?_)
                      generalize w22.drew = w23 at HM4 hHeld ⊢
                      refine pure_ (i := 0) (N := some 99) (v := ?_) (a' := ?_) #[true, false, false, false, false, false, false, false, false, false, false, false, false, false] rfl rfl (by kernel_rfl) (fun _ _ _ h => h) (Or.inl ⟨by rfl, ?_⟩) ?_ ?_
                      rotate_left
                      · intro w'
                        go_simp
                        with_reducible rfl
                      rotate_left
                      · simp only [Act.put, List.setIfInBounds_toArray, List.set_cons_zero, List.set_cons_succ, i64_w, i32_w]
                        rfl
                      refine pure_ (i := 1) (N := some 100) (v := ?_) (a' := ?_) #[true, true, false, false, false, false, false, false, false, false, false, false, false, false] rfl rfl (by kernel_rfl) (fun _ _ _ h => h) (Or.inl ⟨by rfl, ?_⟩) ?_ ?_
                      rotate_left
                      · intro w'
                        go_simp
                        with_reducible rfl
                      rotate_left
                      · simp only [Act.put, List.setIfInBounds_toArray, List.set_cons_zero, List.set_cons_succ, i64_w, i32_w]
                        rfl
                      refine pure_ (i := 3) (N := some 102) (v := ?_) (a' := ?_) #[true, true, false, true, false, false, false, false, false, false, false, false, false, false] rfl rfl (by kernel_rfl) (fun _ _ _ h => h) (Or.inl ⟨by rfl, ?_⟩) ?_ ?_
                      rotate_left
                      · intro w'
                        go_simp
                        with_reducible rfl
                      rotate_left
                      · simp only [Act.put, List.setIfInBounds_toArray, List.set_cons_zero, List.set_cons_succ, i64_w, i32_w]
                        rfl
                      refine pure_ (i := 6) (N := some 105) (v := ?_) (a' := ?_) #[true, true, false, true, false, false, true, false, false, false, false, false, false, false] rfl rfl (by kernel_rfl) (fun _ _ _ h => h) (Or.inl ⟨by rfl, ?_⟩) ?_ ?_
                      rotate_left
                      · intro w'
                        go_simp
                        with_reducible rfl
                      rotate_left
                      · simp only [Act.put, List.setIfInBounds_toArray, List.set_cons_zero, List.set_cons_succ, i64_w, i32_w]
                        rfl
                      refine pure_ (i := 7) (N := some 106) (v := ?_) (a' := ?_) #[true, true, false, true, false, false, true, true, false, false, false, false, false, false] rfl rfl (by kernel_rfl) (fun _ _ _ h => h) (Or.inl ⟨by rfl, ?_⟩) ?_ ?_
                      rotate_left
                      · intro w'
                        go_simp
                        with_reducible rfl
                      rotate_left
                      · simp only [Act.put, List.setIfInBounds_toArray, List.set_cons_zero, List.set_cons_succ, i64_w, i32_w]
                        rfl
                      refine pure_ (i := 8) (N := some 107) (v := ?_) (a' := ?_) #[true, true, false, true, false, false, true, true, true, false, false, false, false, false] rfl rfl (by kernel_rfl) (fun _ _ _ h => h) (Or.inl ⟨by rfl, ?_⟩) ?_ ?_
                      rotate_left
                      · intro w'
                        go_simp
                        with_reducible rfl
                      rotate_left
                      · simp only [Act.put, List.setIfInBounds_toArray, List.set_cons_zero, List.set_cons_succ, i64_w, i32_w]
                        rfl
                      refine take_ (i := 2) (N := some 101) (v := ?_) (a' := ?_) #[true, true, true, true, false, false, true, true, true, false, false, false, false, false] rfl rfl (by kernel_rfl) (fun _ _ _ h => h) (Or.inl ⟨by rfl, ?_⟩) hHeld ?_ ?_
                      rotate_left
                      · rintro w' ⟨s0, s1, s2, s3⟩
                        go_simp
                        with_reducible rfl
                      rotate_left
                      · simp only [Act.put, List.setIfInBounds_toArray, List.set_cons_zero, List.set_cons_succ, i64_w, i32_w]
                        rfl
                      refine pure_ (i := 4) (N := some 103) (v := ?_) (a' := ?_) #[true, true, true, true, true, false, true, true, true, false, false, false, false, false] rfl rfl (by kernel_rfl) (fun _ _ _ h => h) (Or.inl ⟨by rfl, ?_⟩) ?_ ?_
                      rotate_left
                      · intro w'
                        go_simp
                        with_reducible rfl
                      rotate_left
                      · simp only [Act.put, List.setIfInBounds_toArray, List.set_cons_zero, List.set_cons_succ, i64_w, i32_w]
                        rfl
                      refine take_ (i := 5) (N := some 104) (v := ?_) (a' := ?_) #[true, true, true, true, true, true, true, true, true, false, false, false, false, false] rfl rfl (by kernel_rfl) (fun _ _ _ h => h) (Or.inl ⟨by rfl, ?_⟩) hHeld ?_ ?_
                      rotate_left
                      · rintro w' ⟨s0, s1, s2, s3⟩
                        go_simp
                        with_reducible rfl
                      rotate_left
                      · simp only [Act.put, List.setIfInBounds_toArray, List.set_cons_zero, List.set_cons_succ, i64_w, i32_w]
                        rfl
                      refine take_ (i := 9) (N := some 108) (v := ?_) (a' := ?_) #[true, true, true, true, true, true, true, true, true, true, false, false, false, false] rfl rfl (by kernel_rfl) (fun _ _ _ h => h) (Or.inl ⟨by rfl, ?_⟩) hHeld ?_ ?_
                      rotate_left
                      · rintro w' ⟨s0, s1, s2, s3⟩
                        go_simp
                        with_reducible rfl
                      rotate_left
                      · simp only [Act.put, List.setIfInBounds_toArray, List.set_cons_zero, List.set_cons_succ, i64_w, i32_w]
                        rfl
                      refine pure_ (i := 10) (N := some 109) (v := ?_) (a' := ?_) #[true, true, true, true, true, true, true, true, true, true, true, false, false, false] rfl rfl (by kernel_rfl) (fun _ _ _ h => h) (Or.inl ⟨by rfl, ?_⟩) ?_ ?_
                      rotate_left
                      · intro w'
                        go_simp
                        with_reducible rfl
                      rotate_left
                      · simp only [Act.put, List.setIfInBounds_toArray, List.set_cons_zero, List.set_cons_succ, i64_w, i32_w]
                        rfl
                      refine take_ (i := 11) (N := some 110) (v := ?_) (a' := ?_) #[true, true, true, true, true, true, true, true, true, true, true, true, false, false] rfl rfl (by kernel_rfl) (fun _ _ _ h => h) (Or.inl ⟨by rfl, ?_⟩) hHeld ?_ ?_
                      rotate_left
                      · rintro w' ⟨s0, s1, s2, s3⟩
                        go_simp
                        with_reducible rfl
                      rotate_left
                      · simp only [Act.put, List.setIfInBounds_toArray, List.set_cons_zero, List.set_cons_succ, i64_w, i32_w]
                        rfl
                      refine pure_ (i := 12) (N := some 111) (v := ?_) (a' := ?_) #[true, true, true, true, true, true, true, true, true, true, true, true, true, false] rfl rfl (by kernel_rfl) (fun _ _ _ h => h) (Or.inl ⟨by rfl, ?_⟩) ?_ ?_
                      rotate_left
                      · intro w'
                        go_simp
                        with_reducible rfl
                      rotate_left
                      · simp only [Act.put, List.setIfInBounds_toArray, List.set_cons_zero, List.set_cons_succ, i64_w, i32_w]
                        rfl
                      refine last_ (i := 13) (N := none) #[true, true, true, true, true, true, true, true, true, true, true, true, true, true] rfl rfl (by kernel_rfl) (by decide) (fun K hK => ?_)
                      refine HM4.store1Step 1 rfl (by rfl) 4 (.tmp 111) _ rfl 4 (metOf T.length o) true rfl rfl rfl infoB1 rfl (by rw [metOf_len]; exact htT) ?_
                      intro w24 HM5
                      clear HM4
                      refine hK.out _ _ ?_
                      clear hK K
                      refine done_ (by kernel_rfl) ?_
                      rw [metOf_set] at HM5
                      go_wp2_with fail
                      go_roundg (g4 - 1)
                      case measure => have := HKi.out.1; omega
                      case rel => exact ⟨i + 1, o ++ [t], by go_num, ⟨by have := HKi.out.1; omega, (by rw [HTX.out, HQ.out]; exact closI_step HWF.out HZN.out HKi.out.2 hilt HSO.out)⟩, HM5⟩
                    · rw [decide_eq_false hso] at hch
                      have HNO := Aside0.mk hso
                      clear hso
                      go_wp2
                      go_roundg (g2 - 1)
                      case measure => have := HKs.out.1; omega
                      case rel => exact ⟨s + 1, o, by go_num, ⟨by have := HKs.out.1; omega, closI_done HKi.out.2 (.inr HNO.out)⟩, HM⟩
                  · obtain rfl : i = ze.length := by omega
                    go_wp2
                    go_roundg (g2 - 1)
                    case measure => have := HKs.out.1; omega
                    case rel => exact ⟨s + 1, o, by go_num, ⟨by have := HKs.out.1; omega, closI_done HKi.out.2 (.inl rfl)⟩, HM⟩
              · obtain rfl : s = T.length := by omega
                go_wp2
                go_roundg (g1 - 1)
                case measure => have := HK.out.1; omega
                case rel => exact ⟨k + 1, o, by go_num, ⟨by have := HK.out.1; omega, clos_next HWF.out HZN.out HKs.out.2⟩, HM⟩
          · obtain rfl : k = T.length := by omega
            go_wp2
            go_meet
            case rel => exact ⟨o, clos_end HWF.out (by omega) HZN.out HK.out.2, HM.drop 0⟩
      case rest =>
        clear HM13
        obtain ⟨o, ho, HM⟩ := hcut
        have HO0 := Aside0.mk ho
        clear ho
        go_wp2
        go_loopg [13, 18, 19, 20, 21, 22] lw.length (fun gk v13 v18 v19 v20 v21 v22 w' => ∃ (j : Nat) (o : List Nat) (gh ch : Nat), v18 = .int .i64 (j : Int) ∧ v13 = .slice (some ⟨gh, 0, none⟩) T.length ch ∧ Aside0 (gk + j = lw.length ∧ ∀ x, x ∈ o ↔ x ∈ hereS base tracks tr T ((lw.take j).map Int.toNat)) ∧ Mem W.heap.size (fun _ => False) W w' [row kB 4 (.slice (some ⟨gh, 0, none⟩) T.length ch) (metOf T.length o), blk g3 #[.int .i64 base, .int .i64 tracks, .slice A2 l2.length c2, .slice A3 l3.length c3] 25])
        case atStart => exact ⟨0, o, gh, ch, rfl, rfl, ⟨by omega, by rw [HZE.out] at HO0; exact HO0.out⟩, HM⟩
        case round =>
          clear HM HO0
          obtain ⟨g1, rfl⟩ : ∃ x : Nat, x = gk := ⟨_, rfl⟩
          obtain ⟨w20, rfl⟩ : ∃ x : World, x = wr := ⟨_, rfl⟩
          obtain ⟨j, o, gh, ch, rfl, rfl, HK, HM⟩ := hrel
          have hjl : j ≤ lw.length := by have := HK.out.1; omega
          by_cases hlt : j < lw.length
          · have hltI : (j : Int) < (lw.length : Int) := by omega
            obtain ⟨adw, e1, hcellW⟩ := Kd.at_int HCw.out (j : Int) (by omega) (by omega)
            subst e1
            have hin := HWOK.out.2 (lw.getD j 0) (by rw [getD_at hlt]; exact List.getElem_mem hlt)
            obtain ⟨l, hl⟩ : ∃ l : Nat, (l : Int) = lw.getD j 0 := ⟨(lw.getD j 0).toNat, Int.toNat_of_nonneg hin.1⟩
            have hlN : l < sN base tracks := by omega
            rw [Int.toNat_natCast, rd_nat, ← hl] at hcellW
            have hlt2 : (lw.take (j + 1)).map Int.toNat = (lw.take j).map Int.toNat ++ [l] := by
              rw [take_snoc' hlt, List.map_append]
              congr 1
              rw [List.map_singleton, ← getD_at hlt 0, ← hl, Int.toNat_natCast]
            have HLT2 := Aside0.mk hlt2
            have HCELL := Aside0.mk hcellW
            have hcw := pw_cell_below HM.below hcellW
            have hc0 : w20.cell? ⟨g3, 0, none⟩ = some (.int .i64 base) := (HM.cell (i := 1) rfl 0).1
            have hc1 : w20.cell? ⟨g3, 1, none⟩ = some (.int .i64 tracks) := (HM.cell (i := 1) rfl 1).1
            have HM4 := HM.grow (Below.refl _ _).drew
            clear HM hl hlt2 hcellW hin
            go_wp2_with fail
            refine start_ (n := 11) (S := fun w' => w'.cell? ⟨g3, 0, none⟩ = some (.int .i64 base) ∧ w'.cell? ⟨g3, 1, none⟩ = some (.int .i64 tracks) ∧ w'.cell? (adw.add j) = some (.int .i64 (l : Int))) (ds := []) #[false, false, false, false, false, false, false, false, false, false, false] (by kernel_rfl) rfl rfl ⟨hc0, hc1, hcw⟩ (fun hHeld => ?_)
            generalize w20.drew = w21 at HM4 hHeld ⊢
            refine pure_ (i := 0) (N := some 118) (v := ?_) (a' := ?_) #[true, false, false, false, false, false, false, false, false, false, false] rfl rfl (by kernel_rfl) (fun _ _ _ h => h) (Or.inl ⟨by rfl, ?_⟩) ?_ ?_
            rotate_left
            · intro w'
              go_simp
              with_reducible rfl
            rotate_left
            · simp only [Act.put, List.setIfInBounds_toArray, List.set_cons_zero, List.set_cons_succ, i64_w, i32_w]
              rfl
            refine pure_ (i := 2) (N := some 120) (v := ?_) (a' := ?_) #[true, false, true, false, false, false, false, false, false, false, false] rfl rfl (by kernel_rfl) (fun _ _ _ h => h) (Or.inl ⟨by rfl, ?_⟩) ?_ ?_
            rotate_left
            · intro w'
              go_simp
              with_reducible rfl
            rotate_left
            · simp only [Act.put, List.setIfInBounds_toArray, List.set_cons_zero, List.set_cons_succ, i64_w, i32_w]
              rfl
            refine pure_ (i := 4) (N := some 122) (v := ?_) (a' := ?_) #[true, false, true, false, true, false, false, false, false, false, false] rfl rfl (by kernel_rfl) (fun _ _ _ h => h) (Or.inl ⟨by rfl, ?_⟩) ?_ ?_
            rotate_left
            · intro w'
              go_simp
              with_reducible rfl
            rotate_left
            · simp only [Act.put, List.setIfInBounds_toArray, List.set_cons_zero, List.set_cons_succ, i64_w, i32_w]
              rfl
            refine pure_ (i := 5) (N := some 123) (v := ?_) (a' := ?_) #[true, false, true, false, true, true, false, false, false, false, false] rfl rfl (by kernel_rfl) (fun _ _ _ h => h) (Or.inl ⟨by rfl, ?_⟩) ?_ ?_
            rotate_left
            · intro w'
              go_simp
              with_reducible rfl
            rotate_left
            · simp only [Act.put, List.setIfInBounds_toArray, List.set_cons_zero, List.set_cons_succ, i64_w, i32_w]
              rfl
            refine pure_ (i := 6) (N := some 124) (v := ?_) (a' := ?_) #[true, false, true, false, true, true, true, false, false, false, false] rfl rfl (by kernel_rfl) (fun _ _ _ h => h) (Or.inl ⟨by rfl, ?_⟩) ?_ ?_
            rotate_left
            · intro w'
              go_simp
              with_reducible rfl
            rotate_left
            · simp only [Act.put, List.setIfInBounds_toArray, List.set_cons_zero, List.set_cons_succ, i64_w, i32_w]
              rfl
            refine pure_ (i := 7) (N := some 125) (v := ?_) (a' := ?_) #[true, false, true, false, true, true, true, true, false, false, false] rfl rfl (by kernel_rfl) (fun _ _ _ h => h) (Or.inl ⟨by rfl, ?_⟩) ?_ ?_
            rotate_left
            · intro w'
              go_simp
              with_reducible rfl
            rotate_left
            · simp only [Act.put, List.setIfInBounds_toArray, List.set_cons_zero, List.set_cons_succ, i64_w, i32_w]
              rfl
            refine take_ (i := 1) (N := some 119) (v := ?_) (a' := ?_) #[true, true, true, false, true, true, true, true, false, false, false] rfl rfl (by kernel_rfl) (fun _ _ _ h => h) (Or.inl ⟨by rfl, ?_⟩) hHeld ?_ ?_
            rotate_left
            · rintro w' ⟨s0, s1, s2⟩
              go_simp
              with_reducible rfl
            rotate_left
            · simp only [Act.put, List.setIfInBounds_toArray, List.set_cons_zero, List.set_cons_succ, i64_w, i32_w]
              rfl
            refine take_ (i := 3) (N := some 121) (v := ?_) (a' := ?_) #[true, true, true, true, true, true, true, true, false, false, false] rfl rfl (by kernel_rfl) (fun _ _ _ h => h) (Or.inl ⟨by rfl, ?_⟩) hHeld ?_ ?_
            rotate_left
            · rintro w' ⟨s0, s1, s2⟩
              go_simp
              with_reducible rfl
            rotate_left
            · simp only [Act.put, List.setIfInBounds_toArray, List.set_cons_zero, List.set_cons_succ, i64_w, i32_w]
              rfl
            refine take_ (i := 8) (N := some 126) (v := ?_) (a' := ?_) #[true, true, true, true, true, true, true, true, true, false, false] rfl rfl (by kernel_rfl) (fun _ _ _ h => h) (Or.inl ⟨by rfl, ?_⟩) hHeld ?_ ?_
            rotate_left
            · rintro w' ⟨s0, s1, s2⟩
              go_simp
              with_reducible rfl
            rotate_left
            · simp only [Act.put, List.setIfInBounds_toArray, List.set_cons_zero, List.set_cons_succ, i64_w, i32_w]
              rfl
            refine one_ (i := 9) (N := some 127) #[true, true, true, true, true, true, true, true, true, true, false] rfl rfl (by kernel_rfl) (by decide) (fun K hK => ?_)
            refine goes_ Try.func14 (by kernel_rfl) rfl #[.int .i64 base, .int .i64 tracks, .int .i64 (tr : Int), .int .i64 (l : Int)] (by rfl) rfl rfl (by simp only [List.map_toArray, List.map_cons, List.map_nil]; rfl) ?_
            refine (HWo.out l hlN _).mono ?_
            rintro e w22 ⟨v127, rfl, hr, hb⟩
            refine ⟨_, rfl, ?_⟩
            have HM5 := HM4.row_ hb hr
            clear HM4 hb hr
            refine hK.out _ _ ⟨(HM5.cell (i := 2) rfl 0).1, (HM5.cell (i := 2) rfl 1).1, (pw_cell_below HM5.below HCELL.out)⟩ (fun hHeld => ?_)
            clear hK K
            refine norm_ (a' := ?_) ?_ ?_
            rotate_left
            · show Act.put _ (some 127) _ = _
              simp only [Act.put, List.setIfInBounds_toArray, List.set_cons_zero, List.set_cons_succ, i64_w, i32_w]
              rfl
            refine pure_ (i := 10) (N := some 19) (v := ?_) (a' := ?_) #[true, true, true, true, true, true, true, true, true, true, true] rfl rfl (by kernel_rfl) (fun _ _ _ h => h) (Or.inl ⟨by rfl, ?_⟩) ?_ ?_
            rotate_left
            · intro w'
              go_simp
              with_reducible rfl
            rotate_left
            · simp only [Act.put, List.setIfInBounds_toArray, List.set_cons_zero, List.set_cons_succ, i64_w, i32_w]
              rfl
            refine done_ (by kernel_rfl) ?_
            obtain ⟨wl, hwl⟩ : ∃ wl, wl = sW base tracks tr l := ⟨_, rfl⟩
            rw [← hwl] at HM5
            have hwn : ∀ k ∈ wl, k < n := by rw [hwl]; exact HWT.out l hlN
            have hwl6 : wl.length ≤ 6 := by rw [hwl]; exact HWL.out l
            obtain ⟨Al, cl, el, hcl, _⟩ := HM5.rowSlice (i := 0) rfl
            subst el
            rw [I_len] at HM5 hcl
            have HWN := Aside0.mk hwn
            have HWE := Aside0.mk hwl
            have hc2 : w22.cell? ⟨g3, 2, none⟩ = some (.slice A2 l2.length c2) := (HM5.cell (i := 2) rfl 2).1
            rw [I_len]
            clear hwn hwl hc0 hc1 hcw
            go_wp2_with (((with_reducible refine gate_dst (N := 131) rfl ?_); (refine HM5.make kB 4 rfl (N := 131) rfl 23 _ _ rfl (l2.length : Int) rfl rfl Try.underlying23 (.bool false) 1 infoB rfl (by decide) (by decide) false rfl (by omega) (by rw [Int.toNat_natCast]; omega) ?_; intro v131 w23 HM6; clear HM5 hc2; rw [Int.toNat_natCast, HREP.out] at HM6; obtain ⟨gn, cn, em, ecn⟩ := HM6.rowForm (i := 0) rfl (by rw [metOf_len]; exact hTp); subst em; rw [metOf_len] at HM6 ecn ⊢)))
            go_loopg [21, 22] T.length (fun gk v21 v22 w' => ∃ (s : Nat) (o2 : List Nat), v21 = .int .i64 (s : Int) ∧ Aside0 (gk + s = T.length ∧ StepK T wl o s 0 o2) ∧ Mem W.heap.size (fun _ => False) W w' [row kB 4 (.slice (some ⟨gn, 0, none⟩) T.length cn) (metOf T.length o2), row kI 3 (.slice Al wl.length cl) (I wl), row kB 4 (.slice (some ⟨gh, 0, none⟩) T.length ch) (metOf T.length o), blk g3 #[.int .i64 base, .int .i64 tracks, .slice A2 l2.length c2, .slice A3 l3.length c3] 25])
            case atStart => exact ⟨0, [], rfl, ⟨by omega, stepK_start⟩, HM6⟩
            case round =>
              clear HM6
              obtain ⟨g2, rfl⟩ : ∃ x : Nat, x = gk := ⟨_, rfl⟩
              obtain ⟨w30, rfl⟩ : ∃ x : World, x = wr := ⟨_, rfl⟩
              obtain ⟨s, o2, rfl, HKs, HM⟩ := hrel
              have hc2 : w30.cell? ⟨g3, 2, none⟩ = some (.slice A2 l2.length c2) := (HM.cell (i := 3) rfl 2).1
              have hsT : s ≤ T.length := by have := HKs.out.1; omega
              by_cases hslt : s < T.length
              · have hsI : (s : Int) < (l2.length : Int) := by omega
                have hsI2 : (s : Int) < (T.length : Int) := by omega
                go_wp2
                go_loopg [22] wl.length (fun gk v22 w' => ∃ (k : Nat) (o2 : List Nat), v22 = .int .i64 (k : Int) ∧ Aside0 (gk + k = wl.length ∧ StepK T wl o s k o2) ∧ Mem W.heap.size (fun _ => False) W w' [row kB 4 (.slice (some ⟨gn, 0, none⟩) T.length cn) (metOf T.length o2), row kI 3 (.slice Al wl.length cl) (I wl), row kB 4 (.slice (some ⟨gh, 0, none⟩) T.length ch) (metOf T.length o), blk g3 #[.int .i64 base, .int .i64 tracks, .slice A2 l2.length c2, .slice A3 l3.length c3] 25])
                case atStart => exact ⟨0, o2, rfl, ⟨by omega, HKs.out.2⟩, HM⟩
                case round =>
                  clear HM hc2
                  obtain ⟨g4, rfl⟩ : ∃ x : Nat, x = gk := ⟨_, rfl⟩
                  obtain ⟨w31, rfl⟩ : ∃ x : World, x = wr := ⟨_, rfl⟩
                  obtain ⟨i, o2, rfl, HKi, HM⟩ := hrel
                  have hiz : i ≤ wl.length := by have := HKi.out.1; omega
                  have hch := (HM.rowCell false (i := 2) (j := s) rfl (by rw [metOf_len]; exact hslt)).1
                  rw [metOf_get o hslt] at hch
                  by_cases hilt : i < wl.length
                  · have hiI : (i : Int) < (wl.length : Int) := by omega
                    by_cases hso : s ∈ o
                    · rw [decide_eq_true hso] at hch
                      have HSO := Aside0.mk hso
                      clear hso
                      obtain ⟨ad1, e1, hcell1⟩ := Kd.at_int (Kd.R_reads' (HM.rowAt (i := 1) rfl)).2.2 (i : Int) (by omega) (by rw [I_len]; omega)
                      subst e1
                      rw [Int.toNat_natCast, rd_I] at hcell1
                      obtain ⟨q, hq⟩ : ∃ q, q = wl.getD i 0 := ⟨_, rfl⟩
                      rw [← hq] at hcell1
                      have hqn : q < n := HWN.out q (by rw [hq, getD_at hilt]; exact List.getElem_mem hilt)
                      obtain ⟨ad2, A5, c5, e2, hcell2, _, hC5⟩ := row_at (Kd.C_below HC2'.out HM.below) (i := s) hslt
                      subst e2
                      have hrl : (T.getD s []).length = n := HWF.out.row_len hslt
                      obtain ⟨r, hr⟩ : ∃ r, r = T.getD s [] := ⟨_, rfl⟩
                      rw [← hr] at hcell2 hC5 hrl
                      rw [I_len, hrl] at hcell2
                      obtain ⟨ad5, e5, hcell5⟩ := Kd.at_int hC5 (q : Int) (by omega) (by rw [I_len, hrl]; omega)
                      subst e5
                      rw [Int.toNat_natCast, rd_I] at hcell5
                      obtain ⟨t, ht⟩ : ∃ t, t = r.getD q 0 := ⟨_, rfl⟩
                      rw [← ht] at hcell5
                      have htx : t = nx T s q := by rw [ht, hr]; rfl
                      have htT : t < T.length := by rw [htx]; exact HWF.out.nx_lt hslt hqn
                      have htI : (t : Int) < (T.length : Int) := by omega
                      have hqI : (q : Int) < (n : Int) := by omega
                      have hc2 : w31.cell? ⟨g3, 2, none⟩ = some (.slice (some ad2) l2.length c2) := (HM.cell (i := 3) rfl 2).1
                      have HQ := Aside0.mk hq
                      have HTX := Aside0.mk htx
                      have HM4 := HM.grow (Below.refl _ _).drew
                      clear HM hq htx ht hr hC5 hrl
                      go_wp2_with fail
                      refine start_ (n := 14) (S := fun w' => w'.cell? ⟨g3, 2, none⟩ = some (.slice (some ad2) l2.length c2) ∧ w'.cell? (ad2.add s) = some (.slice (some ad5) n c5) ∧ w'.cell? (ad1.add i) = some (.int .i64 (q : Int)) ∧ w'.cell? (ad5.add q) = some (.int .i64 (t : Int))) (ds := [13]) #[false, false, false, false, false, false, false, false, false, false, false, false, false, false] (by kernel_rfl) rfl rfl ⟨hc2, hcell2, hcell1, hcell5⟩ (fun hHeld => ?_)
                      generalize w31.drew = w32 at HM4 hHeld ⊢
                      refine pure_ (i := 0) (N := some 151) (v := ?_) (a' := ?_) #[true, false, false, false, false, false, false, false, false, false, false, false, false, false] rfl rfl (by kernel_rfl) (fun _ _ _ h => h) (Or.inl ⟨by rfl, ?_⟩) ?_ ?_
                      rotate_left
                      · intro w'
                        go_simp
                        with_reducible rfl
                      rotate_left
                      · simp only [Act.put, List.setIfInBounds_toArray, List.set_cons_zero, List.set_cons_succ, i64_w, i32_w]
                        rfl
                      refine pure_ (i := 1) (N := some 152) (v := ?_) (a' := ?_) #[true, true, false, false, false, false, false, false, false, false, false, false, false, false] rfl rfl (by kernel_rfl) (fun _ _ _ h => h) (Or.inl ⟨by rfl, ?_⟩) ?_ ?_
                      rotate_left
                      · intro w'
                        go_simp
                        with_reducible rfl
                      rotate_left
                      · simp only [Act.put, List.setIfInBounds_toArray, List.set_cons_zero, List.set_cons_succ, i64_w, i32_w]
                        rfl
                      refine pure_ (i := 3) (N := some 154) (v := ?_) (a' := ?_) #[true, true, false, true, false, false, false, false, false, false, false, false, false, false] rfl rfl (by kernel_rfl) (fun _ _ _ h => h) (Or.inl ⟨by rfl, ?_⟩) ?_ ?_
                      rotate_left
                      · intro w'
                        go_simp
                        with_reducible rfl
                      rotate_left
                      · simp only [Act.put, List.setIfInBounds_toArray, List.set_cons_zero, List.set_cons_succ, i64_w, i32_w]
                        rfl
                      refine pure_ (i := 6) (N := some 157) (v := ?_) (a' := ?_) #[true, true, false, true, false, false, true, false, false, false, false, false, false, false] rfl rfl (by kernel_rfl) (fun _ _ _ h => h) (Or.inl ⟨by rfl, ?_⟩) ?_ ?_
                      rotate_left
                      · intro w'
                        go_simp
                        with_reducible rfl
                      rotate_left
                      · simp only [Act.put, List.setIfInBounds_toArray, List.set_cons_zero, List.set_cons_succ, i64_w, i32_w]
                        rfl
                      refine pure_ (i := 7) (N := some 158) (v := ?_) (a' := ?_) #[true, true, false, true, false, false, true, true, false, false, false, false, false, false] rfl rfl (by kernel_rfl) (fun _ _ _ h => h) (Or.inl ⟨by rfl, ?_⟩) ?_ ?_
                      rotate_left
                      · intro w'
                        go_simp
                        with_reducible rfl
                      rotate_left
                      · simp only [Act.put, List.setIfInBounds_toArray, List.set_cons_zero, List.set_cons_succ, i64_w, i32_w]
                        rfl
                      refine pure_ (i := 8) (N := some 159) (v := ?_) (a' := ?_) #[true, true, false, true, false, false, true, true, true, false, false, false, false, false] rfl rfl (by kernel_rfl) (fun _ _ _ h => h) (Or.inl ⟨by rfl, ?_⟩) ?_ ?_
                      rotate_left
                      · intro w'
                        go_simp
                        with_reducible rfl
                      rotate_left
                      · simp only [Act.put, List.setIfInBounds_toArray, List.set_cons_zero, List.set_cons_succ, i64_w, i32_w]
                        rfl
                      refine take_ (i := 2) (N := some 153) (v := ?_) (a' := ?_) #[true, true, true, true, false, false, true, true, true, false, false, false, false, false] rfl rfl (by kernel_rfl) (fun _ _ _ h => h) (Or.inl ⟨by rfl, ?_⟩) hHeld ?_ ?_
                      rotate_left
                      · rintro w' ⟨s0, s1, s2, s3⟩
                        go_simp
                        with_reducible rfl
                      rotate_left
                      · simp only [Act.put, List.setIfInBounds_toArray, List.set_cons_zero, List.set_cons_succ, i64_w, i32_w]
                        rfl
                      refine pure_ (i := 4) (N := some 155) (v := ?_) (a' := ?_) #[true, true, true, true, true, false, true, true, true, false, false, false, false, false] rfl rfl (by kernel_rfl) (fun _ _ _ h => h) (Or.inl ⟨by rfl, ?_⟩) ?_ ?_
                      rotate_left
                      · intro w'
                        go_simp
                        with_reducible rfl
                      rotate_left
                      · simp only [Act.put, List.setIfInBounds_toArray, List.set_cons_zero, List.set_cons_succ, i64_w, i32_w]
                        rfl
                      refine take_ (i := 5) (N := some 156) (v := ?_) (a' := ?_) #[true, true, true, true, true, true, true, true, true, false, false, false, false, false] rfl rfl (by kernel_rfl) (fun _ _ _ h => h) (Or.inl ⟨by rfl, ?_⟩) hHeld ?_ ?_
                      rotate_left
                      · rintro w' ⟨s0, s1, s2, s3⟩
                        go_simp
                        with_reducible rfl
                      rotate_left
                      · simp only [Act.put, List.setIfInBounds_toArray, List.set_cons_zero, List.set_cons_succ, i64_w, i32_w]
                        rfl
                      refine take_ (i := 9) (N := some 160) (v := ?_) (a' := ?_) #[true, true, true, true, true, true, true, true, true, true, false, false, false, false] rfl rfl (by kernel_rfl) (fun _ _ _ h => h) (Or.inl ⟨by rfl, ?_⟩) hHeld ?_ ?_
                      rotate_left
                      · rintro w' ⟨s0, s1, s2, s3⟩
                        go_simp
                        with_reducible rfl
                      rotate_left
                      · simp only [Act.put, List.setIfInBounds_toArray, List.set_cons_zero, List.set_cons_succ, i64_w, i32_w]
                        rfl
                      refine pure_ (i := 10) (N := some 161) (v := ?_) (a' := ?_) #[true, true, true, true, true, true, true, true, true, true, true, false, false, false] rfl rfl (by kernel_rfl) (fun _ _ _ h => h) (Or.inl ⟨by rfl, ?_⟩) ?_ ?_
                      rotate_left
                      · intro w'
                        go_simp
                        with_reducible rfl
                      rotate_left
                      · simp only [Act.put, List.setIfInBounds_toArray, List.set_cons_zero, List.set_cons_succ, i64_w, i32_w]
                        rfl
                      refine take_ (i := 11) (N := some 162) (v := ?_) (a' := ?_) #[true, true, true, true, true, true, true, true, true, true, true, true, false, false] rfl rfl (by kernel_rfl) (fun _ _ _ h => h) (Or.inl ⟨by rfl, ?_⟩) hHeld ?_ ?_
                      rotate_left
                      · rintro w' ⟨s0, s1, s2, s3⟩
                        go_simp
                        with_reducible rfl
                      rotate_left
                      · simp only [Act.put, List.setIfInBounds_toArray, List.set_cons_zero, List.set_cons_succ, i64_w, i32_w]
                        rfl
                      refine pure_ (i := 12) (N := some 163) (v := ?_) (a' := ?_) #[true, true, true, true, true, true, true, true, true, true, true, true, true, false] rfl rfl (by kernel_rfl) (fun _ _ _ h => h) (Or.inl ⟨by rfl, ?_⟩) ?_ ?_
                      rotate_left
                      · intro w'
                        go_simp
                        with_reducible rfl
                      rotate_left
                      · simp only [Act.put, List.setIfInBounds_toArray, List.set_cons_zero, List.set_cons_succ, i64_w, i32_w]
                        rfl
                      refine last_ (i := 13) (N := none) #[true, true, true, true, true, true, true, true, true, true, true, true, true, true] rfl rfl (by kernel_rfl) (by decide) (fun K hK => ?_)
                      refine HM4.store1Step 0 rfl (by rfl) 4 (.tmp 163) _ rfl 4 (metOf T.length o2) true rfl rfl rfl infoB1 rfl (by rw [metOf_len]; exact htT) ?_
                      intro w33 HM5
                      clear HM4
                      refine hK.out _ _ ?_
                      clear hK K
                      refine done_ (by kernel_rfl) ?_
                      rw [metOf_set] at HM5
                      go_wp2_with fail
                      go_roundg (g4 - 1)
                      case measure => have := HKi.out.1; omega
                      case rel => exact ⟨i + 1, o2 ++ [t], by go_num, ⟨by have := HKi.out.1; omega, (by rw [HTX.out, HQ.out]; exact stepK_step HKi.out.2 hilt HSO.out)⟩, HM5⟩
                    · rw [decide_eq_false hso] at hch
                      have HNO := Aside0.mk hso
                      clear hso
                      go_wp2
                      go_roundg (g2 - 1)
                      case measure => have := HKs.out.1; omega
                      case rel => exact ⟨s + 1, o2, by go_num, ⟨by have := HKs.out.1; omega, stepK_done HKi.out.2 (.inr HNO.out)⟩, HM⟩
                  · obtain rfl : i = wl.length := by omega
                    go_wp2
                    go_roundg (g2 - 1)
                    case measure => have := HKs.out.1; omega
                    case rel => exact ⟨s + 1, o2, by go_num, ⟨by have := HKs.out.1; omega, stepK_done HKi.out.2 (.inl rfl)⟩, HM⟩
              · obtain rfl : s = T.length := by omega
                go_wp2
                go_roundg (g1 - 1)
                case measure => have := HK.out.1; omega
                case rel =>
                  refine ⟨j + 1, o2, gn, cn, by go_num, rfl, ⟨by have := HK.out.1; omega, ?_⟩, (HM.drop 1).drop 1⟩
                  rw [HLT2.out]
                  unfold hereS
                  rw [List.foldl_append]
                  have h5 := HKs.out.2
                  rw [HWE.out] at h5
                  exact stepK_end HWF.out (by omega) HWT.out hlN (hereS_lt HWF.out HOK.out.many htl _ (fun l' hl' => by
                    obtain ⟨y, hy, rfl⟩ := List.mem_map.1 hl'
                    have := HWOK.out.2 y (List.mem_of_mem_take hy)
                    omega)) HK.out.2 h5
          · obtain rfl : j = lw.length := by omega
            rw [List.take_length] at HK
            have hall : ∀ l ∈ lw.map Int.toNat, l < sN base tracks := fun l hl => by
              obtain ⟨y, hy, rfl⟩ := List.mem_map.1 hl
              have := HWOK.out.2 y hy
              omega
            have HALL := Aside0.mk hall
            clear hall
            have hfin : anyTo l3 o T.length = x1 := by
              rw [anyTo_end (hereS_lt HWF.out HOK.out.many htl _ HALL.out) HK.out.2, ← HT.out.takes HALL.out, HX1.out]
            have HFIN := Aside0.mk hfin
            clear hfin
            go_wp2
            go_loopg [23, 24] T.length (fun gk v23 v24 w' => ∃ s : Nat, v24 = .int .i64 (s : Int) ∧ v23 = .bool (anyTo l3 o s) ∧ Aside0 (gk + s = T.length) ∧ Mem W.heap.size (fun _ => False) W w' [row kB 4 (.slice (some ⟨gh, 0, none⟩) T.length ch) (metOf T.length o), blk g3 #[.int .i64 base, .int .i64 tracks, .slice A2 l2.length c2, .slice A3 l3.length c3] 25])
            case atStart => exact ⟨0, rfl, rfl, ⟨by omega⟩, HM⟩
            case round =>
              clear HM
              obtain ⟨g7', rfl⟩ : ∃ x : Nat, x = gk := ⟨_, rfl⟩
              obtain ⟨w40, rfl⟩ : ∃ x : World, x = wr := ⟨_, rfl⟩
              obtain ⟨s, rfl, rfl, HKs, HM⟩ := hrel
              have hsT : s ≤ T.length := by have := HKs.out; omega
              have hc2 : w40.cell? ⟨g3, 2, none⟩ = some (.slice A2 l2.length c2) := (HM.cell (i := 1) rfl 2).1
              by_cases hslt : s < T.length
              · have hsI : (s : Int) < (l2.length : Int) := by omega
                have hsI2 : (s : Int) < (T.length : Int) := by omega
                have hsI3 : (s : Int) < (l3.length : Int) := by have := HL3.out; omega
                have hc3 : w40.cell? ⟨g3, 3, none⟩ = some (.slice A3 l3.length c3) := (HM.cell (i := 1) rfl 3).1
                have hch := (HM.rowCell false (i := 0) (j := s) rfl (by rw [metOf_len]; exact hslt)).1
                rw [metOf_get o hslt] at hch
                obtain ⟨ad3, e3, hce⟩ := Kd.at_bool (Kd.C_below HC3.out HM.below) (s : Int) (by omega) hsI3
                subst e3
                rw [Int.toNat_natCast, rdB] at hce
                have hsu := anyTo_succ l3 o s
                obtain ⟨be, hbe⟩ : ∃ be, be = l3.getD s false := ⟨_, rfl⟩
                rw [← hbe] at hce
                rw [show en l3 s = be from hbe.symm] at hsu
                obtain ⟨bh, hbh⟩ : ∃ bh, bh = decide (s ∈ o) := ⟨_, rfl⟩
                rw [← hbh] at hch hsu
                obtain ⟨bw, hbw⟩ : ∃ bw, bw = anyTo l3 o s := ⟨_, rfl⟩
                rw [← hbw] at hsu ⊢
                have HSU := Aside0.mk hsu
                clear hsu hbe hbh hbw
                cases bw with
                | true =>
                  go_wp2
                  go_roundg (g7' - 1)
                  case measure => have := HKs.out; omega
                  case rel => exact ⟨s + 1, by go_num, (by rw [HSU.out]; rfl), ⟨by have := HKs.out; omega⟩, HM⟩
                | false =>
                  cases bh with
                  | false =>
                    go_wp2
                    go_roundg (g7' - 1)
                    case measure => have := HKs.out; omega
                    case rel => exact ⟨s + 1, by go_num, (by rw [HSU.out]; rfl), ⟨by have := HKs.out; omega⟩, HM⟩
                  | true =>
                    go_wp2
                    go_roundg (g7' - 1)
                    case measure => have := HKs.out; omega
                    case rel => exact ⟨s + 1, by go_num, (by rw [HSU.out]; rfl), ⟨by have := HKs.out; omega⟩, HM⟩
              · obtain rfl : s = T.length := by omega
                rw [HFIN.out]
                go_wp2
                refine bodyPost_ret (results_single rfl (.tmp .nil)) (by rfl) ⟨?_, HM.below⟩
                first | rfl | (show Ending.returned (.bool _) = _; simp)
    · obtain ⟨hx1, hr1⟩ := hy.2 hwok
      obtain ⟨y1, rfl⟩ := Option.isSome_iff_exists.1 hr1
      clear hy hx1 hr1
      go_wp2_with (first
        | ((with_reducible refine gate_dst (N := 46) rfl ?_); (refine HB.loadAll 0 rfl 25 (.tmp 3) rfl _ rfl Try.underlying25 rfl (by exact infoA4) rfl ?_))
        | (go_at_call 12; (refine (some_calls base tracks A2 c2 l2 A3 c3 l3 _ _ (Kd.C_below HC2.out HB.below) H2.out (Kd.C_below HC3.out HB.below) H3.out).mono ?_; rintro e w6 ⟨hb, hpost⟩; obtain ⟨v2, v3, rfl, hr2, hr3⟩ := hpost.yes HT.out; obtain ⟨Am', cm', rfl⟩ := Kd.R_slice hr2; obtain ⟨Ae', ce', rfl⟩ := Kd.R_slice hr3; have HM6 := HB.rows2 hb hr2 hr3; clear HB hb hpost hr2 hr3))
        | ((with_reducible refine gate_dst (N := 9) rfl ?_); refine box_event ?hg (N := 9) ?hd (cs := #[.int .i64 0, .int .i64 0, .slice none 0 0, .slice none 0 0]) (t := 25) ?hr ?_; (case hd => rfl); (case hg => rfl); (case hr => first | (go_simp; done) | (go_simp; rfl)); intro g9 hg w7 hb hbel; have HM7 := HM6.blk_ hg hb hbel; clear HM6 hg hb hbel)
        | ((with_reducible refine gate_store (t := 25) (p := 9) rfl ?_); (refine HM7.storeAll 0 rfl rfl 25 (.tmp 9) _ rfl (us := #[.int .i64 base, .int .i64 (tracks - 1), .slice Am' (II m.1).length cm', .slice Ae' m.2.length ce']) rfl rfl (one4 rfl rfl rfl rfl) (by exact infoA4) rfl rfl ?_; intro w8 HM8; clear HM7))
        | ((with_reducible refine gate_dst (N := 54) rfl ?_); (refine HM8.loadAll 0 rfl 25 (.tmp 9) rfl _ rfl Try.underlying25 rfl (by exact infoA4) rfl ?_))
        | (go_at_call 9; (have hq := HM8.two_ (i := 1) rfl; refine (auto_Takes.calls k1 base (tracks - 1) Am' cm' (II m.1) Ae' ce' m.2 Aw cw lw x1 (some y1) _ (Kd.R_reads' hq.1).2.2 (Kd.R_reads' hq.1).2.1 (Kd.R_reads' hq.2).2.2 (Kd.R_reads' hq.2).2.1 (Kd.C_below HCw.out HM8.below) HWC.out HK1.out).mono ?_; rintro e w9 ⟨rfl, hb⟩; have HM9 := HM8.grow hb; clear HM8 hb hq; simp only [errW_some])))
      refine bodyPost_ret (results_single rfl (.tmp .nil)) (by rfl) ⟨rfl, HM9.below⟩
  · have HN := Aside0.mk hs
    clear hs
    go_wp2_with (first
      | ((with_reducible refine gate_dst (N := 46) rfl ?_); (refine HB.loadAll 0 rfl 25 (.tmp 3) rfl _ rfl Try.underlying25 rfl (by exact infoA4) rfl ?_))
      | (go_at_call 12; (refine (some_calls base tracks A2 c2 l2 A3 c3 l3 _ _ (Kd.C_below HC2.out HB.below) H2.out (Kd.C_below HC3.out HB.below) H3.out).mono ?_; rintro e w6 ⟨hb, hpost⟩; obtain ⟨x, rfl⟩ := hpost.no HN.out; have HM6 := HB.grow hb; clear HB hb hpost; simp only [errW_some]))
      | ((with_reducible refine gate_dst (N := 9) rfl ?_); refine box_event ?hg (N := 9) ?hd (cs := #[.int .i64 0, .int .i64 0, .slice none 0 0, .slice none 0 0]) (t := 25) ?hr ?_; (case hd => rfl); (case hg => rfl); (case hr => first | (go_simp; done) | (go_simp; rfl)); intro g9 hg w7 hb hbel; have HM7 := HM6.blk_ hg hb hbel; clear HM6 hg hb hbel)
      | ((with_reducible refine gate_store (t := 25) (p := 9) rfl ?_); (refine HM7.storeAll 0 rfl rfl 25 (.tmp 9) _ rfl (us := #[.int .i64 0, .int .i64 0, .slice none 0 0, .slice none 0 0]) rfl rfl (one4 rfl rfl rfl rfl) (by exact infoA4) rfl rfl ?_; intro w8 HM8; clear HM7)))
    refine bodyPost_ret (results_single rfl (.tmp .nil)) (by rfl) ⟨rfl, HM8.below⟩
end Go.Proofs.Ytlffephcbfdknaa.Wk
