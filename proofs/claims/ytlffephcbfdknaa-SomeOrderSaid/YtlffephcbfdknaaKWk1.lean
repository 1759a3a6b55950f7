/- Walk by hand: least.Shrink. -/
import Derived.Test.YtlffephcbfdknaaKWb
import Derived.StillTailTactics
import Derived.Deep.DeepCutAuto
import Derived.Deep.CutBlock
import Derived.Deep.QuietTactic
import Derived.BigQuiet
set_option linter.unusedVariables false
set_option linter.unusedSimpArgs false
namespace Go.Proofs.Ytlffephcbfdknaa.Wk
open Go.RowKit Go.Proofs.YtlffephcbfdknaaW.PrintWords Go.Proofs.YtlffephcbfdknaaW.PrintMore Go.Proofs.YtlffephcbfdknaaW.PrintLast Go.Proofs.Sep Go.Proofs.Fil

theorem infoU8 : ∃ i, Try.prog.info? 5 = some i ∧ True := by
  obtain ⟨i, h, _⟩ := info_parts infoU
  exact ⟨i, h, trivial⟩
theorem outOf_mono (next : Tab) (ends : List Bool) (cls : List Nat) {xs ys : List Nat} (hp : xs <+: ys) : (outOf next ends cls xs).1.length ≤ (outOf next ends cls ys).1.length := by
  obtain ⟨zs, rfl⟩ := hp
  induction zs using snocInd with
  | nil => rw [List.append_nil]; exact Nat.le_refl _
  | snoc zs s ih =>
    rw [← List.append_assoc, outOf_snoc]
    split
    · exact ih
    · simp; omega
theorem outOf_len (next : Tab) (ends : List Bool) (cls : List Nat) (xs : List Nat) : (outOf next ends cls xs).2.length = (outOf next ends cls xs).1.length := by
  induction xs using snocInd with
  | nil => rfl
  | snoc xs s ih =>
    rw [outOf_snoc]
    split
    · exact ih
    · simp [ih]
theorem BI_enc2 (c : Nat) : BI (enc2 c) = [(c : Int) % 256, (c : Int) / 256 % 256] := by
  simp [BI, enc2]
set_option maxRecDepth 100000 in
set_option maxHeartbeats 4000000 in
theorem shrink_calls (n : Nat) (next : Tab) (ends : List Bool) (h : WF n next ends) (hN : next.length < 65536) (hn : n < 65536) (base tracks : Int) (A2 : Option Addr) (c2 : Nat) (A3 : Option Addr) (c3 : Nat) (W : World)
    (hC2 : kL.C W A2 (II next).length (II next)) (hC3 : kB.C W A3 ends.length ends) :
    Calls Try.prog 22 #[.int .i64 base, .int .i64 tracks, .slice A2 (II next).length c2, .slice A3 ends.length c3] W fun e w' => ∃ out : Tab × List Bool, Go.Proofs.Fil.Can n (lof n (next, ends) 0) out ∧ ((out.1.length ≤ 80 ∧ ∃ v2 v3 : Value, e = .returned (.tuple #[.agg #[.int .i64 base, .int .i64 tracks, v2, v3], .bool true]) ∧ kL.R 26 w' W.heap.size (fun _ => True) v2 (II out.1) ∧ kB.R 4 w' W.heap.size (fun _ => True) v3 out.2) ∨ (80 < out.1.length ∧ e = .returned (.tuple #[.agg #[.int .i64 0, .int .i64 0, .slice none 0 0, .slice none 0 0], .bool false]))) ∧ Below W.heap.size W w' := by
  have HC2 := Aside0.mk hC2
  have HC3 := Aside0.mk hC3
  have HW := Aside0.mk h
  have hO := ord_final h
  have hpos := h.pos
  clear hC2 hC3
  have HII := Aside0.mk (II_len next)
  obtain ⟨N, hNN⟩ : ∃ N, N = next.length := ⟨_, rfl⟩
  have HNN := Aside0.mk hNN
  rw [← hNN] at hN hO hpos
  obtain ⟨N2, hN2⟩ : ∃ N2, N2 = (II next).length := ⟨_, rfl⟩
  have hN2' : N2 = N := by rw [hN2, II_len, hNN]
  subst hN2'
  have HN2 := Aside0.mk hN2
  rw [← hN2]
  clear hN2 hNN
  go_enter Try.func22, Try.ntmps22
  have HM0 := Mem.start W
  go_upto_block 0 with (first
    | ((with_reducible refine gate_dst (N := 8) rfl ?_); refine box_event ?hg (N := 8) ?hd (cs := #[.int .i64 0, .int .i64 0, .slice none 0 0, .slice none 0 0]) (t := 25) ?hr ?_; (case hd => rfl); (case hg => rfl); (case hr => first | (go_simp; done) | (go_simp; rfl)); intro g8 hg8 w1 hb8 hbel; have HM1 := HM0.blk_ hg8 hb8 hbel; clear HM0 hg8 hb8 hbel)
    | ((with_reducible refine gate_dst (N := 34) rfl ?_); refine HM1.lit (enc := Value.int .i64) (h1 := fun _ => rfl) 3 rfl (N := 34) rfl [0] ?hr (by decide) ?_; (case hr => first | (go_simp; done) | (go_simp; rfl)); intro v34 w2 HM2; clear HM1)
    | ((with_reducible refine gate_dst (N := 37) rfl ?_); refine HM2.make kB 4 rfl (N := 37) rfl 23 _ _ rfl (N2 : Int) rfl rfl Try.underlying23 (.bool false) 1 infoB rfl (by decide) (by decide) false rfl (by omega) (by rw [Int.toNat_natCast]; omega) ?_; intro v37 w3 HM3; clear HM2; rw [Int.toNat_natCast, ← metOf_nil] at HM3; obtain ⟨gm, cm, em, ecm⟩ := HM3.rowForm (i := 0) rfl (by rw [metOf_len]; exact hpos); subst em; rw [metOf_len] at HM3 ecm ⊢; obtain ⟨hcm, hfm⟩ := HM3.rowCell false (i := 0) (j := 0) rfl (by rw [metOf_len]; exact hpos))
    | ((with_reducible refine gate_store (t := 4) (p := 39) rfl ?_); refine HM3.store1 0 rfl rfl 4 (.tmp 39) _ rfl 4 (metOf N2 []) true rfl rfl rfl infoB1 rfl (by rw [metOf_len]; exact hpos) ?_; intro w4 HM4; clear HM3 hcm hfm; rw [metOf_set] at HM4))
  rw [List.nil_append] at HM4
  go_cut [10] (fun v10 wc => Mem W.heap.size (fun _ => False) W wc [row kI 3 v10 (I (ordOf next)), blk g8 #[.int .i64 0, .int .i64 0, .slice none 0 0, .slice none 0 0] 25])
  case first =>
    go_wp2
    go_loopg [10, 12] (N2 + 1) (fun gk v10 v12 w' => ∃ i : Nat, v12 = .int .i64 i ∧ Aside0 (gk + i = N2 + 1) ∧ Aside0 (i ≤ (bfsI (rowOf next) 0 i).length) ∧ Mem W.heap.size (fun _ => False) W w' [row kB 4 (.slice (some ⟨gm, 0, none⟩) N2 cm) (metOf N2 (bfsI (rowOf next) 0 i)), row kI 3 v10 (I (bfsI (rowOf next) 0 i)), blk g8 #[.int .i64 0, .int .i64 0, .slice none 0 0, .slice none 0 0] 25])
    case atStart => exact ⟨0, rfl, ⟨rfl⟩, ⟨Nat.zero_le _⟩, HM4⟩
    case round =>
      clear HM4
      obtain ⟨gi, rfl⟩ : ∃ x : Nat, x = gk := ⟨_, rfl⟩
      obtain ⟨i, rfl, HK, HI, HM⟩ := hrel
      obtain ⟨o, ho⟩ : ∃ o, o = bfsI (rowOf next) 0 i := ⟨_, rfl⟩
      rw [← ho] at HM HI
      obtain ⟨A10, c10, e10, hc10, hC10⟩ := HM.rowSlice (i := 1) rfl
      have hin := HI.out
      have hlo : o.length ≤ N2 := by
        have h1 := bfsI_le (rowOf next) 0 (U := List.range N2) (List.mem_range.2 hpos) (fun x hx t ht => List.mem_range.2 (by rw [HNN.out] at hx ⊢; exact HW.out.lt _ (HW.out.row_mem (List.mem_range.1 hx)) t ht)) i
        rw [← ho] at h1
        simpa using h1
      rw [I_len] at e10 hc10 hC10
      subst e10
      have HO := Aside0.mk ho
      have HC10 := Aside0.mk hC10
      clear ho hC10
      by_cases hlt : i < o.length
      · obtain ⟨ad10, e10, hcell10⟩ := Kd.at_int HC10.out (i : Int) (by omega) (by omega)
        subst e10
        rw [Int.toNat_natCast, rd_I] at hcell10
        obtain ⟨s, hs⟩ : ∃ s, s = o.getD i 0 := ⟨_, rfl⟩
        rw [← hs] at hcell10
        have hsN : s < N2 := by
          have h1 : s ∈ o := by rw [hs, getD_at hlt]; exact List.getElem_mem hlt
          have h2 := bfsI_inv (rowOf next) 0 (P := fun x => x < N2) hpos (fun x hx t ht => by rw [HNN.out] at hx ⊢; exact HW.out.lt _ (HW.out.row_mem hx) t ht) i s (by rw [← HO.out]; exact h1)
          exact h2
        obtain ⟨r, hr⟩ : ∃ r, r = rowOf next s := ⟨_, rfl⟩
        obtain ⟨ad2, A1, c1, eA2, hcell2, hl2, hC1⟩ := row_at HC2.out (i := s) (by rw [← HNN.out]; exact hsN)
        have hrt : ∀ t ∈ r, t < N2 := by
          intro t ht
          rw [hr] at ht
          rw [HNN.out] at hsN ⊢
          exact HW.out.lt _ (HW.out.row_mem hsN) t ht
        have hrl : r.length = n := by rw [hr]; exact HW.out.row_len (by rw [← HNN.out]; exact hsN)
        have hr' : r = next.getD s [] := hr
        rw [← hr', I_len] at hcell2 hl2 hC1
        subst eA2
        replace hcell2 := pw_cell_below HM.below hcell2
        have HS := Aside0.mk hs
        have HR := Aside0.mk hr
        have HRT := Aside0.mk hrt
        have HC1 := Aside0.mk hC1
        have HL := Aside0.mk hrl
        clear hs hr hr' hrt hC1 hrl
        have hrn : r.length < 65536 := by rw [HL.out]; exact hn
        go_wp2
        go_loopg [10, 14, 54] r.length (fun gk2 v10 v14 v54 w' => ∃ l : Nat, v54 = .int .i64 l ∧ Aside0 (gk2 + l = r.length) ∧ Mem W.heap.size (fun _ => False) W w' [row kB 4 (.slice (some ⟨gm, 0, none⟩) N2 cm) (metOf N2 (addAll o (r.take l))), row kI 3 v10 (I (addAll o (r.take l))), blk g8 #[.int .i64 0, .int .i64 0, .slice none 0 0, .slice none 0 0] 25])
        case atStart => exact ⟨0, rfl, ⟨rfl⟩, HM⟩
        case round =>
          clear hcell10 hcell2 HC10
          have HM0 := HM.below
          clear HM
          obtain ⟨l, rfl, HKl, HM⟩ := hrel
          have hll : l ≤ r.length := by have := HKl.out; omega
          obtain ⟨p, hp⟩ : ∃ p, p = addAll o (r.take l) := ⟨_, rfl⟩
          rw [← hp] at HM
          by_cases hl : l < r.length
          · obtain ⟨ad1, e1, hcell1⟩ := Kd.at_int (show kI.C wr A1 (I r).length (I r) by rw [I_len]; exact Kd.C_below HC1.out HM.below) (l : Int) (by omega) (by rw [I_len]; omega)
            subst e1
            rw [Int.toNat_natCast, rd_I] at hcell1
            obtain ⟨t, ht⟩ : ∃ t, t = r.getD l 0 := ⟨_, rfl⟩
            rw [← ht] at hcell1
            have htN : t < N2 := HRT.out t (by rw [ht, getD_at hl]; exact List.getElem_mem hl)
            have htk : addAll o (r.take (l + 1)) = if t ∈ p then p else p ++ [t] := by
              rw [take_snoc' hl, addAll_snoc, ← hp, ht, getD_at hl]
            obtain ⟨hcm, hfm⟩ := HM.rowCell false (i := 0) (j := t) rfl (by rw [metOf_len]; exact htN)
            rw [metOf_get _ htN] at hcm
            have HT := Aside0.mk ht
            have HTK := Aside0.mk htk
            have HP := Aside0.mk hp
            clear ht htk hp
            by_cases hm : t ∈ p
            · rw [decide_eq_true hm] at hcm
              have HTK2 := Aside0.mk (HTK.out.trans (if_pos hm))
              clear HTK
              have HMM := Aside0.mk hm
              clear hm
              go_wp2
              go_roundg (gk - 1)
              case measure => have := HKl.out; omega
              case rel => exact ⟨l + 1, by go_num, ⟨by have := HKl.out; omega⟩, by rw [HTK2.out]; exact HM⟩
            · rw [decide_eq_false hm] at hcm
              have HTK2 := Aside0.mk (HTK.out.trans (if_neg hm))
              clear HTK
              have hpl : p.length ≤ N2 := by
                have h1 : p.Nodup := by rw [HP.out, HO.out]; exact addAll_nodup (bfsI_nodup _ _ _)
                have h2 := nodup_length_le h1 (U := List.range N2) (fun x hx => by
                  rw [HP.out, mem_addAll] at hx
                  rcases hx with hx | hx
                  · rw [HO.out] at hx
                    have h3 := bfsI_inv (rowOf next) 0 (P := fun x => x < N2) hpos (fun x hx t ht => by rw [HNN.out] at hx ⊢; exact HW.out.lt _ (HW.out.row_mem hx) t ht) i x hx
                    exact List.mem_range.2 h3
                  · exact List.mem_range.2 (HRT.out x (List.mem_of_mem_take hx)))
                simpa using h2
              have HMM := Aside0.mk hm
              clear hm
              go_wp2_with (first
                | ((with_reducible refine gate_store (t := 4) (p := 65) rfl ?_); refine HM.store1 0 rfl rfl 4 (.tmp 65) _ rfl 4 (metOf N2 p) true rfl rfl rfl infoB1 rfl (by rw [metOf_len]; exact htN) ?_; intro w4 HM4; clear HM hcm hfm; rw [metOf_set] at HM4)
                | ((with_reducible refine gate_dst (N := 69) rfl ?_); refine HM4.append1 1 rfl (.tmp 66) (.tmp 68) 26 3 (.int .i64 0) 8 rfl Try.underlying26 infoI rfl (by decide) _ (I p) (t : Int) rfl rfl rfl (by rw [I_len]; omega) ?_; intro v10 w5 HM5; clear HM4; rw [← I_snoc] at HM5))
              go_roundg (gk - 1)
              case measure => have := HKl.out; omega
              case rel => exact ⟨l + 1, by go_num, ⟨by have := HKl.out; omega⟩, by rw [HTK2.out]; exact HM5⟩
          · obtain rfl : l = r.length := by omega
            have HP := Aside0.mk hp
            clear hp
            go_wp2
            go_roundg (gi - 1)
            case measure => have := HK.out; omega
            case rel =>
              have h1 : bfsI (rowOf next) 0 (i + 1) = p := by
                rw [bfsI_succ_some (rowOf next) 0 (x := s) (by rw [← HO.out, HS.out, getD_at hlt]; exact List.getElem?_eq_getElem hlt), ← HO.out, ← HR.out, HP.out, List.take_length]
              exact ⟨i + 1, by go_num, ⟨by have := HK.out; omega⟩, ⟨by rw [h1, HP.out]; have := addAll_length_le o (r.take r.length); omega⟩, by rw [h1]; exact HM⟩
      · obtain rfl : i = o.length := by omega
        have h1 : ordOf next = o := by
          unfold ordOf
          rw [← HNN.out, bfsI_final (rowOf next) 0 (i := N2) (j := o.length) (by have := hO; unfold ordOf at this; rwa [← HNN.out] at this) (by rw [← HO.out]; exact Nat.le_refl _), ← HO.out]
        have H1 := Aside0.mk h1
        clear h1
        go_wp2
        go_meet
        case rel =>
          rw [H1.out]
          exact HM.drop 0
  case rest =>
    clear HM4
    obtain ⟨od, hod⟩ : ∃ od, od = ordOf next := ⟨_, rfl⟩
    rw [← hod] at hcut hO
    have hodl : ∀ s ∈ od, s < N2 := fun s hs => by rw [HNN.out]; rw [hod] at hs; exact ord_lt HW.out s hs
    have HOD := Aside0.mk hod
    have HODL := Aside0.mk hodl
    have HEN := Aside0.mk (HW.out.len.trans HNN.out.symm)
    have HM1 := hcut
    clear hod hodl hcut
    obtain ⟨A10, c10, e10, hc10, hC10⟩ := HM1.rowSlice (i := 0) rfl
    rw [I_len] at e10 hc10
    subst e10
    clear hC10 hc10
    go_upto_block 4 with (((with_reducible refine gate_dst (N := 73) rfl ?_); refine HM1.make kI 3 rfl (N := 73) rfl 26 _ _ rfl (N2 : Int) rfl rfl Try.underlying26 (.int .i64 0) 8 infoI rfl (by decide) (by decide) (0 : Int) rfl (by omega) (by rw [Int.toNat_natCast]; omega) ?_; intro v73 w3 HM3; clear HM1; rw [Int.toNat_natCast, ← I_rep, ← fillOf_nil N2 (fun s => if en ends s = true then 1 else 0)] at HM3; obtain ⟨gc, cc, ec, ecc⟩ := HM3.rowForm (i := 0) rfl (by rw [I_len, fillOf_len]; exact hpos); subst ec; rw [I_len, fillOf_len] at HM3 ecc ⊢))
    go_cut [17] (fun v17 wc => Mem W.heap.size (fun _ => False) W wc [row kI 3 (.slice (some ⟨gc, 0, none⟩) N2 cc) (I (clsAt next ends od 0)), row kI 3 (.slice A10 od.length c10) (I od), blk g8 #[.int .i64 0, .int .i64 0, .slice none 0 0, .slice none 0 0] 25])
    case first =>
      go_wp2
      go_loopg [17, 76] od.length (fun gk v17 v76 w' => ∃ i : Nat, v76 = .int .i64 i ∧ Aside0 (gk + i = od.length) ∧ Mem W.heap.size (fun _ => False) W w' [row kI 3 (.slice (some ⟨gc, 0, none⟩) N2 cc) (I (fillOf N2 (od.take i) (fun s => if en ends s = true then 1 else 0))), row kI 3 (.slice A10 od.length c10) (I od), blk g8 #[.int .i64 0, .int .i64 0, .slice none 0 0, .slice none 0 0] 25])
      case atStart => exact ⟨0, rfl, ⟨rfl⟩, HM3⟩
      case round =>
        clear HM3
        obtain ⟨i, rfl, HK, HM⟩ := hrel
        have hil : i ≤ od.length := by have := HK.out; omega
        by_cases hlt : i < od.length
        · obtain ⟨ad10, e10, hcell10⟩ := Kd.at_int (Kd.R_reads' (HM.rowAt (i := 1) rfl)).2.2 (i : Int) (by omega) (by rw [I_len]; omega)
          subst e10
          rw [Int.toNat_natCast, rd_I] at hcell10
          obtain ⟨s, hs⟩ : ∃ s, s = od.getD i 0 := ⟨_, rfl⟩
          rw [← hs] at hcell10
          have hsN : s < N2 := HODL.out s (by rw [hs, getD_at hlt]; exact List.getElem_mem hlt)
          have hsE : s < ends.length := by rw [HEN.out]; exact hsN
          obtain ⟨ad3, e3, hcell3⟩ := Kd.at_bool (Kd.C_below HC3.out HM.below) (s : Int) (by omega) (by omega)
          subst e3
          rw [Int.toNat_natCast, rdB] at hcell3
          have htk : od.take (i + 1) = od.take i ++ [s] := by rw [take_snoc' hlt, hs, getD_at hlt]
          have HTK := Aside0.mk htk
          have HS := Aside0.mk hs
          clear htk hs
          obtain ⟨be, hbe⟩ : ∃ be, be = ends.getD s false := ⟨_, rfl⟩
          rw [← hbe] at hcell3
          cases be with
          | true =>
            have HBE := Aside0.mk hbe
            clear hbe
            go_wp2_with (((with_reducible refine gate_store (t := 3) (p := 86) rfl ?_); refine HM.store1 0 rfl rfl 3 (.tmp 86) _ rfl 3 (I (fillOf N2 (od.take i) (fun s => if en ends s = true then 1 else 0))) (1 : Int) rfl rfl rfl infoI1 rfl (by rw [I_len, fillOf_len]; exact hsN) ?_; intro w4 HM4; clear HM; rw [← Int.natCast_one, ← I_set, fillOf_set N2 s _ _ 1 (by rw [if_pos (show en ends s = true from HBE.out.symm)])] at HM4))
            go_roundg (gk - 1)
            case measure => have := HK.out; omega
            case rel => exact ⟨i + 1, by go_num, ⟨by have := HK.out; omega⟩, by rw [HTK.out]; exact HM4⟩
          | false =>
            have HBE := Aside0.mk hbe
            clear hbe
            go_wp2
            go_roundg (gk - 1)
            case measure => have := HK.out; omega
            case rel => exact ⟨i + 1, by go_num, ⟨by have := HK.out; omega⟩, by rw [HTK.out, ← fillOf_skip N2 s _ _ (by rw [if_neg (by rw [show en ends s = false from HBE.out.symm]; decide)])]; exact HM⟩
        · obtain rfl : i = od.length := by omega
          go_wp2
          go_meet
          case rel =>
            rw [show clsAt next ends od 0 = fillOf N2 (od.take od.length) (fun s => if en ends s = true then 1 else 0) by rw [List.take_length, HNN.out]; exact cls0_fill next ends od]
            exact HM
    case rest =>
      clear HM3
      have HM0 := hcut
      clear hcut
      go_upto_block 6 with (fail)
      go_cut [15] (fun v15 wc => ∃ j : Nat, Aside0 (manyAt next ends od (j + 1) = manyAt next ends od j) ∧ Mem W.heap.size (fun _ => False) W wc [row kI 3 v15 (I (clsAt next ends od (j + 1))), row kI 3 (.slice A10 od.length c10) (I od), blk g8 #[.int .i64 0, .int .i64 0, .slice none 0 0, .slice none 0 0] 25])
      case first =>
        go_wp2
        go_loopg [15, 18] (N2 + 1) (fun gk v15 v18 w' => ∃ j : Nat, v18 = .int .i64 (manyAt next ends od j : Nat) ∧ Aside0 (gk = N2 + 1 - manyAt next ends od j) ∧ Mem W.heap.size (fun _ => False) W w' [row kI 3 v15 (I (clsAt next ends od j)), row kI 3 (.slice A10 od.length c10) (I od), blk g8 #[.int .i64 0, .int .i64 0, .slice none 0 0, .slice none 0 0] 25])
        case atStart => exact ⟨0, rfl, ⟨rfl⟩, HM0⟩
        case round =>
          clear HM0
          obtain ⟨g4, rfl⟩ : ∃ x : Nat, x = gk := ⟨_, rfl⟩
          obtain ⟨w40, rfl⟩ : ∃ x : World, x = wr := ⟨_, rfl⟩
          obtain ⟨j, rfl, HJ, HM⟩ := hrel
          obtain ⟨cls, hcls⟩ : ∃ cls, cls = clsAt next ends od j := ⟨_, rfl⟩
          rw [← hcls] at HM
          have hclen : cls.length = N2 := by rw [hcls, HOD.out, HNN.out]; exact clsAt_len j
          have hcle : ∀ s, cls.getD s 0 ≤ N2 := by rw [hcls, HOD.out, HNN.out]; exact fun s => cls_all_le HW.out s j
          obtain ⟨gcl, ccl, ecl, hccl⟩ := HM.rowForm (i := 0) rfl (by rw [I_len, hclen]; exact hpos)
          subst ecl
          rw [I_len, hclen] at HM hccl ⊢
          obtain ⟨mj, hmj⟩ : ∃ mj, mj = manyAt next ends od j := ⟨_, rfl⟩
          rw [← hmj]
          have hml : mj ≤ N2 := by rw [hmj, HOD.out, HNN.out]; exact many_le HW.out j
          have HMJ := Aside0.mk hmj
          have HCLS := Aside0.mk hcls
          have HCLEN := Aside0.mk hclen
          have HCLE := Aside0.mk hcle
          clear hmj hcls hclen hcle
          go_upto_block 8 with (first
            | ((with_reducible refine gate_dst (N := 88) rfl ?_); refine HM.mapMake rfl 74 9 3 rfl ?_; intro B w1 HM1; clear HM)
            | ((with_reducible refine gate_dst (N := 91) rfl ?_); (refine HM1.make kI 3 rfl (N := 91) rfl 26 _ _ rfl (N2 : Int) rfl rfl Try.underlying26 (.int .i64 0) 8 infoI rfl (by decide) (by decide) (0 : Int) rfl (by omega) (by rw [Int.toNat_natCast]; omega) ?_; intro v91 w3 HM3; clear HM1; rw [Int.toNat_natCast, ← I_rep, ← fillOf_nil N2 (fun s => (keysOf next od cls).idxOf (kyOf next cls s))] at HM3; obtain ⟨gf, cf, ef, ecf⟩ := HM3.rowForm (i := 0) rfl (by rw [I_len, fillOf_len]; exact hpos); subst ef; rw [I_len, fillOf_len] at HM3 ecf ⊢; replace HM3 := HM3.nil kU 5)))
          go_cut [23] (fun v23 wc => Mem W.heap.size (fun _ => False) W wc [row kI 3 (.slice (some ⟨gf, 0, none⟩) N2 cf) (I (fillOf N2 od (fun s => (keysOf next od cls).idxOf (kyOf next cls s)))), imap Try.prog 9 3 B ((bkeys next cls od).map Lit.string), row kI 3 (.slice (some ⟨gcl, 0, none⟩) N2 ccl) (I cls), row kI 3 (.slice A10 od.length c10) (I od), blk g8 #[.int .i64 0, .int .i64 0, .slice none 0 0, .slice none 0 0] 25])
          case first =>
            go_wp2
            go_loopg [21, 94] od.length (fun gk v21 v94 w' => ∃ (i : Nat) (kb : List Int), v94 = .int .i64 i ∧ Aside0 (gk + i = od.length) ∧ Aside0 (kb.length ≤ 200000) ∧ Mem W.heap.size (fun _ => False) W w' [row kU 5 v21 kb, row kI 3 (.slice (some ⟨gf, 0, none⟩) N2 cf) (I (fillOf N2 (od.take i) (fun s => (keysOf next od cls).idxOf (kyOf next cls s)))), imap Try.prog 9 3 B ((bkeys next cls (od.take i)).map Lit.string), row kI 3 (.slice (some ⟨gcl, 0, none⟩) N2 ccl) (I cls), row kI 3 (.slice A10 od.length c10) (I od), blk g8 #[.int .i64 0, .int .i64 0, .slice none 0 0, .slice none 0 0] 25])
            case atStart => exact ⟨0, [], rfl, ⟨rfl⟩, ⟨Nat.zero_le _⟩, HM3⟩
            case round =>
              clear HM3
              obtain ⟨g5, rfl⟩ : ∃ x : Nat, x = gk := ⟨_, rfl⟩
              obtain ⟨w50, rfl⟩ : ∃ x : World, x = wr := ⟨_, rfl⟩
              obtain ⟨i, kb, rfl, HK, HKB, HM⟩ := hrel
              have hil : i ≤ od.length := by have := HK.out; omega
              by_cases hlt : i < od.length
              · obtain ⟨ad10, e10, hcell10⟩ := Kd.at_int (Kd.R_reads' (HM.rowAt (i := 4) rfl)).2.2 (i : Int) (by omega) (by rw [I_len]; omega)
                subst e10
                rw [Int.toNat_natCast, rd_I] at hcell10
                obtain ⟨s, hs⟩ : ∃ s, s = od.getD i 0 := ⟨_, rfl⟩
                rw [← hs] at hcell10
                have hsm : s ∈ od := by rw [hs, getD_at hlt]; exact List.getElem_mem hlt
                have hsN : s < N2 := HODL.out s hsm
                have htk : od.take (i + 1) = od.take i ++ [s] := by rw [take_snoc' hlt, hs, getD_at hlt]
                obtain ⟨hcc, _⟩ := HM.rowCell (0 : Int) (i := 3) (j := s) rfl (by rw [I_len, HCLEN.out]; exact hsN)
                rw [I_get] at hcc
                obtain ⟨cs, hcs⟩ : ∃ cs, cs = cls.getD s 0 := ⟨_, rfl⟩
                have hcsl : cs ≤ N2 := by rw [hcs]; exact HCLE.out s
                rw [← hcs] at hcc
                obtain ⟨A21, c21, e21, hc21, _⟩ := HM.rowSlice (i := 0) rfl
                subst e21
                have hkb := HKB.out
                obtain ⟨iu, hiu, _⟩ := infoU8
                have hsl : ∀ W : World, (Instr.slice 75 (.slice A21 kb.length c21) none (some (.int .i64 0)) none).run Try.prog W = .ok (.slice A21 0 c21) W := fun W => cut_to 75 5 .i64 Try.underlying75 hiu A21 kb.length c21 0 (by omega) (by omega) hc21 W
                have HM1 := HM.takeRow 0 (m := 0) rfl (Nat.zero_le _)
                clear hiu
                have HS := Aside0.mk hs
                have HTK := Aside0.mk htk
                have HCS := Aside0.mk hcs
                have HSM := Aside0.mk hsm
                clear hs htk hcs hsm HM
                go_wp2_with fail
                have HM2 := HM1.grow (Below.refl _ _).drew
                clear HM1
                refine start_ (n := 16) (S := fun w' => w'.cell? ⟨gcl, s, none⟩ = some (.int .i64 (cs : Int))) (ds := [13, 14]) #[false, false, false, false, false, false, false, false, false, false, false, false, false, false, false, false] (by kernel_rfl) rfl rfl (hcc) (fun hHeld => ?_)
                generalize w50.drew = w51 at HM2 hHeld ⊢
                refine pure_ (i := 0) (N := some 98) (v := ?_) (a' := ?_) #[true, false, false, false, false, false, false, false, false, false, false, false, false, false, false, false] rfl rfl (by kernel_rfl) (fun _ _ _ h => h) (Or.inl ⟨by rfl, ?_⟩) ?_ ?_
                rotate_left
                · intro w'
                  go_simp
                  with_reducible rfl
                rotate_left
                · simp only [Act.put, List.setIfInBounds_toArray, List.set_cons_zero, List.set_cons_succ, i64_w, i32_w]
                  rfl
                refine pure_ (i := 1) (N := some 99) (v := ?_) (a' := ?_) #[true, true, false, false, false, false, false, false, false, false, false, false, false, false, false, false] rfl rfl (by kernel_rfl) (fun _ _ _ h => h) (Or.inl ⟨by rfl, ?_⟩) ?_ ?_
                rotate_left
                · intro w'
                  go_simp
                  with_reducible rfl
                rotate_left
                · simp only [Act.put, List.setIfInBounds_toArray, List.set_cons_zero, List.set_cons_succ, i64_w, i32_w]
                  rfl
                refine pure_ (i := 2) (N := some 100) (v := ?_) (a' := ?_) #[true, true, true, false, false, false, false, false, false, false, false, false, false, false, false, false] rfl rfl (by kernel_rfl) (fun _ _ _ h => h) (Or.inl ⟨by rfl, ?_⟩) ?_ ?_
                rotate_left
                · intro w'
                  go_simp
                  with_reducible rfl
                rotate_left
                · simp only [Act.put, List.setIfInBounds_toArray, List.set_cons_zero, List.set_cons_succ, i64_w, i32_w]
                  rfl
                refine pure_ (i := 3) (N := some 101) (v := ?_) (a' := ?_) #[true, true, true, true, false, false, false, false, false, false, false, false, false, false, false, false] rfl rfl (by kernel_rfl) (fun _ _ _ h => h) (Or.inl ⟨by rfl, ?_⟩) ?_ ?_
                rotate_left
                · intro w'
                  go_simp
                  with_reducible rfl
                rotate_left
                · simp only [Act.put, List.setIfInBounds_toArray, List.set_cons_zero, List.set_cons_succ, i64_w, i32_w]
                  rfl
                refine pure_ (i := 4) (N := some 102) (v := ?_) (a' := ?_) #[true, true, true, true, true, false, false, false, false, false, false, false, false, false, false, false] rfl rfl (by kernel_rfl) (fun _ _ _ h => h) (Or.inl ⟨by rfl, ?_⟩) ?_ ?_
                rotate_left
                · intro w'
                  go_simp
                  with_reducible rfl
                rotate_left
                · simp only [Act.put, List.setIfInBounds_toArray, List.set_cons_zero, List.set_cons_succ, i64_w, i32_w]
                  rfl
                refine pure_ (i := 7) (N := some 105) (v := ?_) (a' := ?_) #[true, true, true, true, true, false, false, true, false, false, false, false, false, false, false, false] rfl rfl (by kernel_rfl) (fun _ _ _ h => h) (Or.inl ⟨by rfl, ?_⟩) ?_ ?_
                rotate_left
                · intro w'
                  go_simp
                  with_reducible rfl
                rotate_left
                · simp only [Act.put, List.setIfInBounds_toArray, List.set_cons_zero, List.set_cons_succ, i64_w, i32_w]
                  rfl
                refine pure_ (i := 8) (N := some 106) (v := ?_) (a' := ?_) #[true, true, true, true, true, false, false, true, true, false, false, false, false, false, false, false] rfl rfl (by kernel_rfl) (fun _ _ _ h => h) (Or.inl ⟨by rfl, ?_⟩) ?_ ?_
                rotate_left
                · intro w'
                  go_simp
                  with_reducible rfl
                rotate_left
                · simp only [Act.put, List.setIfInBounds_toArray, List.set_cons_zero, List.set_cons_succ, i64_w, i32_w]
                  rfl
                refine pure_ (i := 9) (N := some 107) (v := ?_) (a' := ?_) #[true, true, true, true, true, false, false, true, true, true, false, false, false, false, false, false] rfl rfl (by kernel_rfl) (fun _ _ _ h => h) (Or.inl ⟨by rfl, ?_⟩) ?_ ?_
                rotate_left
                · intro w'
                  go_simp
                  with_reducible rfl
                rotate_left
                · simp only [Act.put, List.setIfInBounds_toArray, List.set_cons_zero, List.set_cons_succ, i64_w, i32_w]
                  rfl
                refine take_ (i := 5) (N := some 103) (v := ?_) (a' := ?_) #[true, true, true, true, true, true, false, true, true, true, false, false, false, false, false, false] rfl rfl (by kernel_rfl) (fun _ _ _ h => h) (Or.inl ⟨by rfl, ?_⟩) hHeld ?_ ?_
                rotate_left
                · intro w' s0
                  go_simp
                  with_reducible rfl
                rotate_left
                · simp only [Act.put, List.setIfInBounds_toArray, List.set_cons_zero, List.set_cons_succ, i64_w, i32_w]
                  rfl
                refine pure_ (i := 6) (N := some 104) (v := ?_) (a' := ?_) #[true, true, true, true, true, true, true, true, true, true, false, false, false, false, false, false] rfl rfl (by kernel_rfl) (fun _ _ _ h => h) (Or.inl ⟨by rfl, ?_⟩) ?_ ?_
                rotate_left
                · intro w'
                  go_simp
                  with_reducible rfl
                rotate_left
                · simp only [Act.put, List.setIfInBounds_toArray, List.set_cons_zero, List.set_cons_succ, i64_w, i32_w]
                  rfl
                refine take_ (i := 10) (N := some 108) (v := ?_) (a' := ?_) #[true, true, true, true, true, true, true, true, true, true, true, false, false, false, false, false] rfl rfl (by kernel_rfl) (fun _ _ _ h => h) (Or.inl ⟨by rfl, ?_⟩) hHeld ?_ ?_
                rotate_left
                · intro w' s0
                  go_simp
                  with_reducible rfl
                rotate_left
                · simp only [Act.put, List.setIfInBounds_toArray, List.set_cons_zero, List.set_cons_succ, i64_w, i32_w]
                  rfl
                refine pure_ (i := 11) (N := some 109) (v := ?_) (a' := ?_) #[true, true, true, true, true, true, true, true, true, true, true, true, false, false, false, false] rfl rfl (by kernel_rfl) (fun _ _ _ h => h) (Or.inl ⟨by rfl, ?_⟩) ?_ ?_
                rotate_left
                · intro w'
                  go_simp
                  with_reducible rfl
                rotate_left
                · simp only [Act.put, List.setIfInBounds_toArray, List.set_cons_zero, List.set_cons_succ, i64_w, i32_w]
                  rfl
                refine pure_ (i := 12) (N := some 110) (v := ?_) (a' := ?_) #[true, true, true, true, true, true, true, true, true, true, true, true, true, false, false, false] rfl rfl (by kernel_rfl) (fun _ _ _ h => h) (Or.inl ⟨by rfl, ?_⟩) ?_ ?_
                rotate_left
                · intro w'
                  go_simp
                  with_reducible rfl
                rotate_left
                · simp only [Act.put, List.setIfInBounds_toArray, List.set_cons_zero, List.set_cons_succ, i64_w, i32_w]
                  rfl
                refine last_ (i := 13) (N := some 111) #[true, true, true, true, true, true, true, true, true, true, true, true, true, true, false, false] rfl rfl (by kernel_rfl) (by decide) (fun K hK => ?_)
                refine HM2.litStep (enc := Value.int .u8) (h1 := fun _ => rfl) 5 (by rfl) (N := 111) rfl [(cs : Int) % 256, (cs : Int) / 256 % 256] ?hr (by simp) ?_
                (case hr => first | (go_simp; done) | (go_simp; rfl))
                intro v111 w52 HM3
                clear HM2
                refine hK.out _ _ ?_
                clear hK K
                refine norm_ (a' := ?_) ?_ ?_
                rotate_left
                · show Act.put _ (some 111) _ = _
                  simp only [Act.put, List.setIfInBounds_toArray, List.set_cons_zero, List.set_cons_succ, i64_w, i32_w]
                  rfl
                refine last_ (i := 14) (N := some 112) #[true, true, true, true, true, true, true, true, true, true, true, true, true, true, true, false] rfl rfl (by kernel_rfl) (by decide) (fun K hK => ?_)
                obtain ⟨A111, c111, e111, _, hC111⟩ := HM3.rowSlice (i := 0) rfl
                subst e111
                refine HM3.appendAllStep 1 (by rfl) (.tmp 99) (.tmp 111) 75 5 (.int .u8 0) 1 rfl Try.underlying75 infoU rfl (by decide) _ (kb.take 0) [(cs : Int) % 256, (cs : Int) / 256 % 256] A111 2 c111 rfl rfl rfl hC111 (by simp) ?_
                intro v112 w53 HM4
                clear HM3 hC111
                refine hK.out _ _ ?_
                clear hK K
                refine norm_ (a' := ?_) ?_ ?_
                rotate_left
                · show Act.put _ (some 112) _ = _
                  simp only [Act.put, List.setIfInBounds_toArray, List.set_cons_zero, List.set_cons_succ, i64_w, i32_w]
                  rfl
                refine pure_ (i := 15) (N := some 21) (v := ?_) (a' := ?_) #[true, true, true, true, true, true, true, true, true, true, true, true, true, true, true, true] rfl rfl (by kernel_rfl) (fun _ _ _ h => h) (Or.inl ⟨by rfl, ?_⟩) ?_ ?_
                rotate_left
                · intro w'
                  go_simp
                  with_reducible rfl
                rotate_left
                · simp only [Act.put, List.setIfInBounds_toArray, List.set_cons_zero, List.set_cons_succ, i64_w, i32_w]
                  rfl
                refine done_ (by kernel_rfl) ?_
                rw [List.take_zero, List.nil_append, ← BI_enc2] at HM4
                replace HM4 := HM4.drop 0
                obtain ⟨r, hr⟩ : ∃ r, r = rowOf next s := ⟨_, rfl⟩
                obtain ⟨ad2, A1, c1, eA2, hcell2, hl2, hC1⟩ := row_at HC2.out (i := s) (by rw [← HNN.out]; exact hsN)
                have hr' : r = next.getD s [] := hr
                rw [← hr', I_len] at hcell2 hl2 hC1
                subst eA2
                replace hcell2 := pw_cell_below HM4.below hcell2
                have hrn : r.length < 65536 := by rw [hr, show (rowOf next s).length = n from HW.out.row_len (by rw [← HNN.out]; exact hsN)]; exact hn
                have HRT := Aside0.mk (show ∀ t ∈ r, t < N2 by
                  intro t ht
                  rw [hr] at ht
                  rw [HNN.out] at hsN ⊢
                  exact HW.out.lt _ (HW.out.row_mem hsN) t ht)
                have HR := Aside0.mk hr
                have HC1 := Aside0.mk hC1
                clear hr hr' hC1 hHeld hcc hcell10 hsl
                go_wp2
                go_loopg [21, 25, 118] r.length (fun gk6 v21 v25 v118 w' => ∃ l : Nat, v118 = .int .i64 l ∧ Aside0 (gk6 + l = r.length) ∧ Mem W.heap.size (fun _ => False) W w' [row kU 5 v21 (BI (encK (cs :: (r.take l).map (fun t => cls.getD t 0)))), row kI 3 (.slice (some ⟨gf, 0, none⟩) N2 cf) (I (fillOf N2 (od.take i) (fun s => (keysOf next od cls).idxOf (kyOf next cls s)))), imap Try.prog 9 3 B ((bkeys next cls (od.take i)).map Lit.string), row kI 3 (.slice (some ⟨gcl, 0, none⟩) N2 ccl) (I cls), row kI 3 (.slice (some ad10) od.length c10) (I od), blk g8 #[.int .i64 0, .int .i64 0, .slice none 0 0, .slice none 0 0] 25])
                case atStart => exact ⟨0, rfl, ⟨rfl⟩, HM4⟩
                case round =>
                  clear HM4 hcell2
                  obtain ⟨g6, rfl⟩ : ∃ x : Nat, x = gk := ⟨_, rfl⟩
                  obtain ⟨w60, rfl⟩ : ∃ x : World, x = wr := ⟨_, rfl⟩
                  obtain ⟨l, rfl, HKl, HM⟩ := hrel
                  have hll : l ≤ r.length := by have := HKl.out; omega
                  by_cases hl : l < r.length
                  · obtain ⟨ad1, e1, hcell1⟩ := Kd.at_int (show kI.C w60 A1 (I r).length (I r) by rw [I_len]; exact Kd.C_below HC1.out HM.below) (l : Int) (by omega) (by rw [I_len]; omega)
                    subst e1
                    rw [Int.toNat_natCast, rd_I] at hcell1
                    obtain ⟨t, ht⟩ : ∃ t, t = r.getD l 0 := ⟨_, rfl⟩
                    rw [← ht] at hcell1
                    have htN : t < N2 := HRT.out t (by rw [ht, getD_at hl]; exact List.getElem_mem hl)
                    obtain ⟨hct, _⟩ := HM.rowCell (0 : Int) (i := 3) (j := t) rfl (by rw [I_len, HCLEN.out]; exact htN)
                    rw [I_get] at hct
                    obtain ⟨ct, hcte⟩ : ∃ ct, ct = cls.getD t 0 := ⟨_, rfl⟩
                    have hctl : ct ≤ N2 := by rw [hcte]; exact HCLE.out t
                    rw [← hcte] at hct
                    have hkn : encK (cs :: (r.take (l + 1)).map (fun t => cls.getD t 0)) = encK (cs :: (r.take l).map (fun t => cls.getD t 0)) ++ enc2 ct := by
                      rw [take_snoc' hl, List.map_append, ← List.cons_append, List.map_singleton, encK_snoc, hcte, ht, getD_at hl]
                    obtain ⟨kl, hkl⟩ : ∃ kl, kl = encK (cs :: (r.take l).map (fun t => cls.getD t 0)) := ⟨_, rfl⟩
                    have hkll : kl.length = 2 * (l + 1) := by rw [hkl, encK_len]; simp [List.length_take]; omega
                    have hklb : (BI kl).length ≤ 200000 := by rw [BI_len]; omega
                    rw [← hkl] at HM hkn
                    have HKN := Aside0.mk hkn
                    have HM2 := HM.grow (Below.refl _ _).drew
                    clear HM hkn hkl hkll ht hcte
                    go_wp2_with fail
                    refine start_ (n := 15) (S := fun w' => w'.cell? ⟨gcl, t, none⟩ = some (.int .i64 (ct : Int))) (ds := [12, 13]) #[false, false, false, false, false, false, false, false, false, false, false, false, false, false, false] (by kernel_rfl) rfl rfl (hct) (fun hHeld => ?_)
                    generalize w60.drew = w61 at HM2 hHeld ⊢
                    refine pure_ (i := 0) (N := some 122) (v := ?_) (a' := ?_) #[true, false, false, false, false, false, false, false, false, false, false, false, false, false, false] rfl rfl (by kernel_rfl) (fun _ _ _ h => h) (Or.inl ⟨by rfl, ?_⟩) ?_ ?_
                    rotate_left
                    · intro w'
                      go_simp
                      with_reducible rfl
                    rotate_left
                    · simp only [Act.put, List.setIfInBounds_toArray, List.set_cons_zero, List.set_cons_succ, i64_w, i32_w]
                      rfl
                    refine pure_ (i := 1) (N := some 123) (v := ?_) (a' := ?_) #[true, true, false, false, false, false, false, false, false, false, false, false, false, false, false] rfl rfl (by kernel_rfl) (fun _ _ _ h => h) (Or.inl ⟨by rfl, ?_⟩) ?_ ?_
                    rotate_left
                    · intro w'
                      go_simp
                      with_reducible rfl
                    rotate_left
                    · simp only [Act.put, List.setIfInBounds_toArray, List.set_cons_zero, List.set_cons_succ, i64_w, i32_w]
                      rfl
                    refine pure_ (i := 2) (N := some 124) (v := ?_) (a' := ?_) #[true, true, true, false, false, false, false, false, false, false, false, false, false, false, false] rfl rfl (by kernel_rfl) (fun _ _ _ h => h) (Or.inl ⟨by rfl, ?_⟩) ?_ ?_
                    rotate_left
                    · intro w'
                      go_simp
                      with_reducible rfl
                    rotate_left
                    · simp only [Act.put, List.setIfInBounds_toArray, List.set_cons_zero, List.set_cons_succ, i64_w, i32_w]
                      rfl
                    refine pure_ (i := 3) (N := some 125) (v := ?_) (a' := ?_) #[true, true, true, true, false, false, false, false, false, false, false, false, false, false, false] rfl rfl (by kernel_rfl) (fun _ _ _ h => h) (Or.inl ⟨by rfl, ?_⟩) ?_ ?_
                    rotate_left
                    · intro w'
                      go_simp
                      with_reducible rfl
                    rotate_left
                    · simp only [Act.put, List.setIfInBounds_toArray, List.set_cons_zero, List.set_cons_succ, i64_w, i32_w]
                      rfl
                    refine pure_ (i := 6) (N := some 128) (v := ?_) (a' := ?_) #[true, true, true, true, false, false, true, false, false, false, false, false, false, false, false] rfl rfl (by kernel_rfl) (fun _ _ _ h => h) (Or.inl ⟨by rfl, ?_⟩) ?_ ?_
                    rotate_left
                    · intro w'
                      go_simp
                      with_reducible rfl
                    rotate_left
                    · simp only [Act.put, List.setIfInBounds_toArray, List.set_cons_zero, List.set_cons_succ, i64_w, i32_w]
                      rfl
                    refine pure_ (i := 7) (N := some 129) (v := ?_) (a' := ?_) #[true, true, true, true, false, false, true, true, false, false, false, false, false, false, false] rfl rfl (by kernel_rfl) (fun _ _ _ h => h) (Or.inl ⟨by rfl, ?_⟩) ?_ ?_
                    rotate_left
                    · intro w'
                      go_simp
                      with_reducible rfl
                    rotate_left
                    · simp only [Act.put, List.setIfInBounds_toArray, List.set_cons_zero, List.set_cons_succ, i64_w, i32_w]
                      rfl
                    refine pure_ (i := 8) (N := some 130) (v := ?_) (a' := ?_) #[true, true, true, true, false, false, true, true, true, false, false, false, false, false, false] rfl rfl (by kernel_rfl) (fun _ _ _ h => h) (Or.inl ⟨by rfl, ?_⟩) ?_ ?_
                    rotate_left
                    · intro w'
                      go_simp
                      with_reducible rfl
                    rotate_left
                    · simp only [Act.put, List.setIfInBounds_toArray, List.set_cons_zero, List.set_cons_succ, i64_w, i32_w]
                      rfl
                    refine take_ (i := 4) (N := some 126) (v := ?_) (a' := ?_) #[true, true, true, true, true, false, true, true, true, false, false, false, false, false, false] rfl rfl (by kernel_rfl) (fun _ _ _ h => h) (Or.inl ⟨by rfl, ?_⟩) hHeld ?_ ?_
                    rotate_left
                    · intro w' s0
                      go_simp
                      with_reducible rfl
                    rotate_left
                    · simp only [Act.put, List.setIfInBounds_toArray, List.set_cons_zero, List.set_cons_succ, i64_w, i32_w]
                      rfl
                    refine pure_ (i := 5) (N := some 127) (v := ?_) (a' := ?_) #[true, true, true, true, true, true, true, true, true, false, false, false, false, false, false] rfl rfl (by kernel_rfl) (fun _ _ _ h => h) (Or.inl ⟨by rfl, ?_⟩) ?_ ?_
                    rotate_left
                    · intro w'
                      go_simp
                      with_reducible rfl
                    rotate_left
                    · simp only [Act.put, List.setIfInBounds_toArray, List.set_cons_zero, List.set_cons_succ, i64_w, i32_w]
                      rfl
                    refine take_ (i := 9) (N := some 131) (v := ?_) (a' := ?_) #[true, true, true, true, true, true, true, true, true, true, false, false, false, false, false] rfl rfl (by kernel_rfl) (fun _ _ _ h => h) (Or.inl ⟨by rfl, ?_⟩) hHeld ?_ ?_
                    rotate_left
                    · intro w' s0
                      go_simp
                      with_reducible rfl
                    rotate_left
                    · simp only [Act.put, List.setIfInBounds_toArray, List.set_cons_zero, List.set_cons_succ, i64_w, i32_w]
                      rfl
                    refine pure_ (i := 10) (N := some 132) (v := ?_) (a' := ?_) #[true, true, true, true, true, true, true, true, true, true, true, false, false, false, false] rfl rfl (by kernel_rfl) (fun _ _ _ h => h) (Or.inl ⟨by rfl, ?_⟩) ?_ ?_
                    rotate_left
                    · intro w'
                      go_simp
                      with_reducible rfl
                    rotate_left
                    · simp only [Act.put, List.setIfInBounds_toArray, List.set_cons_zero, List.set_cons_succ, i64_w, i32_w]
                      rfl
                    refine pure_ (i := 11) (N := some 133) (v := ?_) (a' := ?_) #[true, true, true, true, true, true, true, true, true, true, true, true, false, false, false] rfl rfl (by kernel_rfl) (fun _ _ _ h => h) (Or.inl ⟨by rfl, ?_⟩) ?_ ?_
                    rotate_left
                    · intro w'
                      go_simp
                      with_reducible rfl
                    rotate_left
                    · simp only [Act.put, List.setIfInBounds_toArray, List.set_cons_zero, List.set_cons_succ, i64_w, i32_w]
                      rfl
                    refine last_ (i := 12) (N := some 134) #[true, true, true, true, true, true, true, true, true, true, true, true, true, false, false] rfl rfl (by kernel_rfl) (by decide) (fun K hK => ?_)
                    refine HM2.litStep (enc := Value.int .u8) (h1 := fun _ => rfl) 5 (by rfl) (N := 134) rfl [(ct : Int) % 256, (ct : Int) / 256 % 256] ?hr (by simp) ?_
                    (case hr => first | (go_simp; done) | (go_simp; rfl))
                    intro v134 w62 HM3
                    clear HM2
                    refine hK.out _ _ ?_
                    clear hK K
                    refine norm_ (a' := ?_) ?_ ?_
                    rotate_left
                    · show Act.put _ (some 134) _ = _
                      simp only [Act.put, List.setIfInBounds_toArray, List.set_cons_zero, List.set_cons_succ, i64_w, i32_w]
                      rfl
                    refine last_ (i := 13) (N := some 135) #[true, true, true, true, true, true, true, true, true, true, true, true, true, true, false] rfl rfl (by kernel_rfl) (by decide) (fun K hK => ?_)
                    obtain ⟨A134, c134, e134, _, hC134⟩ := HM3.rowSlice (i := 0) rfl
                    subst e134
                    refine HM3.appendAllStep 1 (by rfl) (.tmp 122) (.tmp 134) 75 5 (.int .u8 0) 1 rfl Try.underlying75 infoU rfl (by decide) _ (BI kl) [(ct : Int) % 256, (ct : Int) / 256 % 256] A134 2 c134 rfl rfl rfl hC134 (by omega) ?_
                    intro v135 w63 HM4
                    clear HM3 hC134
                    refine hK.out _ _ ?_
                    clear hK K
                    refine norm_ (a' := ?_) ?_ ?_
                    rotate_left
                    · show Act.put _ (some 135) _ = _
                      simp only [Act.put, List.setIfInBounds_toArray, List.set_cons_zero, List.set_cons_succ, i64_w, i32_w]
                      rfl
                    refine pure_ (i := 14) (N := some 21) (v := ?_) (a' := ?_) #[true, true, true, true, true, true, true, true, true, true, true, true, true, true, true] rfl rfl (by kernel_rfl) (fun _ _ _ h => h) (Or.inl ⟨by rfl, ?_⟩) ?_ ?_
                    rotate_left
                    · intro w'
                      go_simp
                      with_reducible rfl
                    rotate_left
                    · simp only [Act.put, List.setIfInBounds_toArray, List.set_cons_zero, List.set_cons_succ, i64_w, i32_w]
                      rfl
                    refine done_ (by kernel_rfl) ?_
                    rw [← BI_enc2, ← BI_append] at HM4
                    replace HM4 := HM4.drop 0
                    clear hHeld hct
                    go_wp2
                    go_roundg (g6 - 1)
                    case measure => have := HKl.out; omega
                    case rel => exact ⟨l + 1, by go_num, ⟨by have := HKl.out; omega⟩, by rw [HKN.out]; exact HM4⟩
                  · obtain rfl : l = r.length := by omega
                    obtain ⟨kb2, hkb2⟩ : ∃ kb2, kb2 = encK (kyOf next cls s) := ⟨_, rfl⟩
                    have hk2 : encK (cs :: (r.take r.length).map (fun t => cls.getD t 0)) = kb2 := by
                      rw [hkb2, List.take_length, HCS.out, HR.out]; rfl
                    have hk2l : kb2.length ≤ 200000 := by rw [← hk2, encK_len]; simp; omega
                    rw [hk2] at HM
                    obtain ⟨A21, c21, e21, hc21, hCk⟩ := HM.rowSlice (i := 0) rfl
                    subst e21
                    have HCk := Aside0.mk hCk
                    have hkey : Go.keyOf Try.prog 9 (.string (strOfNums (BI kb2))) = some (.string kb2) := by
                      rw [Go.WideMaps.keyOf_string_mk Try.underlying9 (by rw [str_BI_size]; unfold maxLen; omega), str_BI]
                    have HKEY := Aside0.mk hkey
                    have HKB2 := Aside0.mk hkb2
                    clear hCk hkey hkb2 hk2
                    have hbkl : (bkeys next cls (od.take i)).length ≤ N2 := by
                      have h1 := dd_length_le ((od.take i).map fun s => encK (kyOf next cls s))
                      rw [List.length_map, List.length_take] at h1
                      unfold bkeys
                      omega
                    by_cases hm : kb2 ∈ bkeys next cls (od.take i)
                    · obtain ⟨kj, hkj⟩ : ∃ kj, kj = (bkeys next cls (od.take i)).idxOf kb2 := ⟨_, rfl⟩
                      have hkjl : kj < (bkeys next cls (od.take i)).length := by rw [hkj]; exact List.idxOf_lt_length_of_mem hm
                      have hkjg : ((bkeys next cls (od.take i)).map Lit.string)[kj]? = some (.string kb2) := by
                        rw [List.getElem?_map, List.getElem?_eq_getElem hkjl, Option.map_some]
                        congr 2
                        subst hkj
                        exact List.getElem_idxOf hkjl
                      have hidx : kj = (keysOf next od cls).idxOf (kyOf next cls s) := by
                        have h1 := bkeys_idx HW.out (by rw [← HNN.out]; exact hN) j (s := s) (by rw [← HOD.out]; exact HSM.out)
                        rw [← HOD.out, ← HCLS.out, ← HKB2.out] at h1
                        rw [hkj, ← h1]
                        exact (idxOf_of_prefix (bkeys_prefix cls (take_prefix' od i)) hm).symm
                      have hnew : bkeys next cls (od.take (i + 1)) = bkeys next cls (od.take i) := by
                        rw [HTK.out, bkeys_snoc, ← HKB2.out, if_pos hm]
                      have HKJ := Aside0.mk hkjg
                      have HIDX := Aside0.mk hidx
                      have HNEW := Aside0.mk hnew
                      clear hkj hkjg hidx hnew hm
                      go_wp2_with (first
                        | ((with_reducible refine gate_dst (N := 140) rfl ?_); refine Mem.str rfl 75 9 5 (.tmp 139) rfl Try.underlying75 Try.underlying5 Try.underlying9 rfl HCk.out ?_)
                        | ((with_reducible refine gate_dst (N := 141) rfl ?_); refine HM.mapHit 2 rfl (.tmp 138) (.tmp 140) 74 9 3 rfl keyS Try.underlying74 Try.underlying3 (zeroI _) B _ rfl rfl _ (.string kb2) rfl HKEY.out kj HKJ.out ?_)
                        | ((with_reducible refine gate_store (t := 3) (p := 155) rfl ?_); refine HM.store1 1 rfl rfl 3 (.tmp 155) _ rfl 3 (I (fillOf N2 (od.take i) (fun s => (keysOf next od cls).idxOf (kyOf next cls s)))) (kj : Int) rfl rfl rfl infoI1 rfl (by rw [I_len, fillOf_len]; exact hsN) ?_; intro w4 HM4; clear HM; rw [← I_set, fillOf_set N2 s _ _ kj HIDX.out, ← HTK.out] at HM4))
                      go_roundg (g5 - 1)
                      case measure => have := HK.out; omega
                      case rel => exact ⟨i + 1, BI kb2, by go_num, ⟨by have := HK.out; omega⟩, ⟨by rw [BI_len]; exact hk2l⟩, by rw [HNEW.out]; exact HM4⟩
                    · have hkm : Lit.string kb2 ∉ (bkeys next cls (od.take i)).map Lit.string := by
                        intro h1
                        obtain ⟨x, hx, he⟩ := List.mem_map.1 h1
                        injection he with he
                        subst he
                        exact hm hx
                      obtain ⟨kj, hkj⟩ : ∃ kj, kj = ((bkeys next cls (od.take i)).map Lit.string).length := ⟨_, rfl⟩
                      have hkjN : kj ≤ N2 := by rw [hkj, List.length_map]; exact hbkl
                      have hnew : bkeys next cls (od.take (i + 1)) = bkeys next cls (od.take i) ++ [kb2] := by
                        rw [HTK.out, bkeys_snoc, ← HKB2.out, if_neg hm]
                      have hidx : kj = (keysOf next od cls).idxOf (kyOf next cls s) := by
                        have h1 := bkeys_idx HW.out (by rw [← HNN.out]; exact hN) j (s := s) (by rw [← HOD.out]; exact HSM.out)
                        rw [← HOD.out, ← HCLS.out, ← HKB2.out] at h1
                        have h2 := idxOf_of_prefix (bkeys_prefix (next := next) cls (take_prefix' od (i + 1))) (x := kb2) (by rw [hnew]; simp)
                        rw [← h1, h2, hnew, List.idxOf_append, if_neg hm, hkj, List.length_map]
                        simp
                      have hnewS : (bkeys next cls (od.take (i + 1))).map Lit.string = (bkeys next cls (od.take i)).map Lit.string ++ [.string kb2] := by rw [hnew, List.map_append]; rfl
                      have HKM := Aside0.mk hkm
                      have HKJ := Aside0.mk hkj
                      have HIDX := Aside0.mk hidx
                      have HNEW := Aside0.mk hnewS
                      clear hkj hkm hidx hnew hnewS hm
                      go_wp2_with (first
                        | ((with_reducible refine gate_dst (N := 140) rfl ?_); refine Mem.str rfl 75 9 5 (.tmp 139) rfl Try.underlying75 Try.underlying5 Try.underlying9 rfl HCk.out ?_)
                        | ((with_reducible refine gate_dst (N := 141) rfl ?_); refine HM.mapMiss 2 rfl (.tmp 138) (.tmp 140) 74 9 3 rfl keyS Try.underlying74 Try.underlying3 (zeroI _) B _ rfl rfl _ (.string kb2) rfl HKEY.out HKM.out ?_)
                        | ((with_reducible refine gate_dst (N := 147) rfl ?_); refine HM.mapLen 2 rfl (.tmp 146) 74 9 3 rfl Try.underlying74 B _ rfl rfl ?_; rw [← HKJ.out])
                        | ((with_reducible refine gate_dst (N := 150) rfl ?_); refine Mem.str rfl 75 9 5 (.tmp 149) rfl Try.underlying75 Try.underlying5 Try.underlying9 rfl HCk.out ?_)
                        | (at_mapUpdate; refine HM.mapPut 2 rfl rfl (.tmp 148) (.tmp 150) (.tmp 151) 74 9 3 rfl keyS Try.underlying74 Try.underlying3 B _ rfl rfl _ (.string kb2) rfl (by rw [← HKJ.out]; rfl) HKEY.out HKM.out (by rw [← HKJ.out]; omega) ?_; intro w3 HM3; clear HM)
                        | ((with_reducible refine gate_store (t := 3) (p := 155) rfl ?_); refine HM3.store1 1 rfl rfl 3 (.tmp 155) _ rfl 3 (I (fillOf N2 (od.take i) (fun s => (keysOf next od cls).idxOf (kyOf next cls s)))) (kj : Int) rfl rfl rfl infoI1 rfl (by rw [I_len, fillOf_len]; exact hsN) ?_; intro w4 HM4; clear HM3; rw [← I_set, fillOf_set N2 s _ _ kj HIDX.out, ← HTK.out] at HM4))
                      go_roundg (g5 - 1)
                      case measure => have := HK.out; omega
                      case rel => exact ⟨i + 1, BI kb2, by go_num, ⟨by have := HK.out; omega⟩, ⟨by rw [BI_len]; exact hk2l⟩, by rw [HNEW.out]; exact HM4⟩
              · obtain rfl : i = od.length := by omega
                go_wp2
                go_meet
                case rel =>
                  rw [List.take_length] at HM
                  exact HM.drop 0
          case rest =>
            clear HM3
            have HM0 := hcut
            clear hcut
            have hbl : (bkeys next cls od).length = manyAt next ends od (j + 1) := by
              rw [HOD.out, HCLS.out, HOD.out]
              exact bkeys_len HW.out (by rw [← HNN.out]; exact hN) j
            have hcl1 : fillOf N2 od (fun s => (keysOf next od cls).idxOf (kyOf next cls s)) = clsAt next ends od (j + 1) := by
              show _ = freshOf next od (clsAt next ends od j)
              rw [fresh_fill, ← HNN.out, ← HCLS.out]
            rw [hcl1] at HM0
            have hmk : ((bkeys next cls od).map Lit.string).length = manyAt next ends od (j + 1) := by rw [List.length_map, hbl]
            have hmn : manyAt next ends od (j + 1) ≤ N2 := by rw [HOD.out, HNN.out]; exact many_le HW.out (j + 1)
            have hmono : manyAt next ends od j ≤ manyAt next ends od (j + 1) := by rw [HOD.out]; exact many_mono HW.out j
            obtain ⟨mk, hmk'⟩ : ∃ mk, mk = manyAt next ends od (j + 1) := ⟨_, rfl⟩
            rw [← hmk'] at hmk hmn hmono
            have HMK := Aside0.mk hmk
            have HMK' := Aside0.mk hmk'
            have HMONO := Aside0.mk hmono
            clear hbl hcl1 hmk hmk' hmono
            by_cases he : mk = mj
            · subst he
              go_wp2_with (first
                | ((with_reducible refine gate_dst (N := 159) rfl ?_); refine HM0.mapLen 1 rfl (.tmp 158) 74 9 3 rfl Try.underlying74 B _ rfl rfl ?_; rw [HMK.out]))
              go_meet
              case rel => exact ⟨j, ⟨by rw [← HMK'.out, HMJ.out]⟩, ((HM0.drop 1).drop 1)⟩
            · go_wp2_with (first
                | ((with_reducible refine gate_dst (N := 159) rfl ?_); refine HM0.mapLen 1 rfl (.tmp 158) 74 9 3 rfl Try.underlying74 B _ rfl rfl ?_; rw [HMK.out])
                | ((with_reducible refine gate_dst (N := 163) rfl ?_); refine HM0.mapLen 1 rfl (.tmp 162) 74 9 3 rfl Try.underlying74 B _ rfl rfl ?_; rw [HMK.out]))
              go_roundg (N2 + 1 - mk)
              case measure => have h1 := HJ.out; have h2 := HMONO.out; rw [← HMJ.out] at h1 h2; omega
              case rel => exact ⟨j + 1, by rw [← HMK'.out], ⟨by rw [← HMK'.out]⟩, ((HM0.drop 1).drop 1)⟩
      case rest =>
        clear HM0
        obtain ⟨j, HST, HM0⟩ := hcut
        obtain ⟨cls, hcls⟩ : ∃ cls, cls = clsAt next ends od (j + 1) := ⟨_, rfl⟩
        rw [← hcls] at HM0
        have hclen : cls.length = N2 := by rw [hcls, HOD.out, HNN.out]; exact clsAt_len (j + 1)
        have hcle : ∀ s, cls.getD s 0 ≤ N2 := by rw [hcls, HOD.out, HNN.out]; exact fun s => cls_all_le HW.out s (j + 1)
        obtain ⟨gcl, ccl, ecl, hccl⟩ := HM0.rowForm (i := 0) rfl (by rw [I_len, hclen]; exact hpos)
        subst ecl
        rw [I_len, hclen] at HM0 hccl ⊢
        have HCLS := Aside0.mk hcls
        have HCLEN := Aside0.mk hclen
        have HCLE := Aside0.mk hcle
        clear hcls hclen hcle
        go_upto_block 12 with (first
          | ((with_reducible refine gate_dst (N := 28) rfl ?_); refine box_event ?hg (N := 28) ?hd (cs := #[.int .i64 0, .int .i64 0, .slice none 0 0, .slice none 0 0]) (t := 25) ?hr ?_; (case hd => rfl); (case hg => rfl); (case hr => first | (go_simp; done) | (go_simp; rfl)); intro go hgo w1 hbo hbel; have HM1 := HM0.blk_ hgo hbo hbel; clear HM0 hgo hbo hbel)
          | ((with_reducible refine gate_store (t := 25) (p := 28) rfl ?_); (refine HM1.storeAll 0 rfl rfl 25 (.tmp 28) _ rfl (us := #[.int .i64 base, .int .i64 tracks, .slice none 0 0, .slice none 0 0]) rfl rfl (by intro q hq; simp only [List.mem_cons, List.not_mem_nil, or_false] at hq; rcases hq with rfl | rfl | rfl | rfl <;> rfl) infoA4 rfl rfl ?_; intro w2 HM2; clear HM1; replace HM2 := HM2.nil kB 4; replace HM2 := HM2.nil kL 26)))
        go_wp2
        go_loopg [30, 31, 169] od.length (fun gk v30 v31 v169 w' => ∃ (i : Nat) (vN vE : Value), v169 = .int .i64 i ∧ Aside0 (gk + i = od.length) ∧ Aside0 ((outOf next ends cls (od.take i)).1.length ≤ 80) ∧ Mem W.heap.size (fun _ => False) W w' [row kL 26 vN (II (outOf next ends cls (od.take i)).1), row kB 4 vE (outOf next ends cls (od.take i)).2, blk go #[.int .i64 base, .int .i64 tracks, vN, vE] 25, row kI 3 (.slice (some ⟨gcl, 0, none⟩) N2 ccl) (I cls), row kI 3 (.slice A10 od.length c10) (I od), blk g8 #[.int .i64 0, .int .i64 0, .slice none 0 0, .slice none 0 0] 25])
        case atStart => exact ⟨0, .slice none 0 0, .slice none 0 0, rfl, ⟨rfl⟩, ⟨Nat.zero_le _⟩, HM2⟩
        case round =>
          clear HM2
          obtain ⟨g7, rfl⟩ : ∃ x : Nat, x = gk := ⟨_, rfl⟩
          obtain ⟨w70, rfl⟩ : ∃ x : World, x = wr := ⟨_, rfl⟩
          obtain ⟨i, vN, vE, rfl, HK, HL80, HM⟩ := hrel
          have hil : i ≤ od.length := by have := HK.out; omega
          by_cases hlt : i < od.length
          · obtain ⟨ad10, e10, hcell10⟩ := Kd.at_int (Kd.R_reads' (HM.rowAt (i := 4) rfl)).2.2 (i : Int) (by omega) (by rw [I_len]; omega)
            subst e10
            rw [Int.toNat_natCast, rd_I] at hcell10
            obtain ⟨s, hs⟩ : ∃ s, s = od.getD i 0 := ⟨_, rfl⟩
            rw [← hs] at hcell10
            have hsm : s ∈ od := by rw [hs, getD_at hlt]; exact List.getElem_mem hlt
            have hsN : s < N2 := HODL.out s hsm
            have htk : od.take (i + 1) = od.take i ++ [s] := by rw [take_snoc' hlt, hs, getD_at hlt]
            obtain ⟨hcc, _⟩ := HM.rowCell (0 : Int) (i := 3) (j := s) rfl (by rw [I_len, HCLEN.out]; exact hsN)
            rw [I_get] at hcc
            obtain ⟨cs, hcs⟩ : ∃ cs, cs = cls.getD s 0 := ⟨_, rfl⟩
            have hcsl : cs ≤ N2 := by rw [hcs]; exact HCLE.out s
            rw [← hcs] at hcc
            obtain ⟨AN, cN, eN, hcN, _⟩ := HM.rowSlice (i := 0) rfl
            obtain ⟨AE, cE, eE, hcE, _⟩ := HM.rowSlice (i := 1) rfl
            subst eN
            subst eE
            have hbN : w70.cell? ⟨go, 2, none⟩ = some (.slice AN (II (outOf next ends cls (od.take i)).1).length cN) := (HM.cell (i := 2) rfl 2).1
            have hfN := (HM.cell (i := 2) rfl 2).2
            have hbE : w70.cell? ⟨go, 3, none⟩ = some (.slice AE (outOf next ends cls (od.take i)).2.length cE) := (HM.cell (i := 2) rfl 3).1
            have hsnoc := outOf_snoc next ends cls (od.take i) s
            rw [← htk, ← hcs] at hsnoc
            obtain ⟨oc, hoc⟩ : ∃ oc, oc = outOf next ends cls (od.take i) := ⟨_, rfl⟩
            rw [← hoc] at HM hsnoc hbN hbE hcN hcE
            have hl80 := HL80.out
            rw [← hoc] at hl80
            rw [II_len] at hbN hcN
            have HOC := Aside0.mk hoc
            have HS := Aside0.mk hs
            have HTK := Aside0.mk htk
            have HCS := Aside0.mk hcs
            clear hoc hs htk hcs HL80
            by_cases hcl : cs < oc.1.length
            · rw [if_pos hcl] at hsnoc
              have HSN := Aside0.mk hsnoc
              clear hsnoc
              go_wp2
              go_quiet (fail)
              go_wp2
              go_roundg (g7 - 1)
              case measure => have := HK.out; omega
              case rel => exact ⟨i + 1, _, _, by go_num, ⟨by have := HK.out; omega⟩, ⟨by rw [HSN.out]; exact hl80⟩, by rw [HSN.out]; exact HM.drewN _⟩
            · rw [if_neg hcl] at hsnoc
              have HSN := Aside0.mk hsnoc
              clear hsnoc
              have HLN := Aside0.mk hcl
              clear hcl
              have hc80 : oc.1.length ≤ cs := Nat.le_of_not_lt HLN.out
              by_cases h80 : oc.1.length = 80
              · skip
                go_wp2
                go_quiet (fail)
                go_wp2_with (first
                  | ((with_reducible refine gate_store (t := 25) (p := 8) rfl ?_); (refine (HM.drewN _).storeAll 5 rfl rfl 25 (.tmp 8) _ rfl (us := #[.int .i64 0, .int .i64 0, .slice none 0 0, .slice none 0 0]) rfl rfl (by intro q hq; simp only [List.mem_cons, List.not_mem_nil, or_false] at hq; rcases hq with rfl | rfl | rfl | rfl <;> rfl) (by exact infoA4) rfl rfl ?_; intro w2 HM2; clear HM)))
                refine bodyPost_ret (results_list (rs := [.cell 8 25, .tmp 9]) rfl (by simp) (.cell g8 25 _ (0, 0) _ rfl (HM2.blkAt (i := 5) rfl).1 Try.underlying25 rfl infoA4 (.tmp .nil))) (by rfl) ?_
                have hcan := outOf_can HW.out (j := j) (by rw [← HOD.out]; exact HST.out)
                rw [← HOD.out, ← HCLS.out] at hcan
                refine ⟨_, hcan, .inr ⟨?_, rfl⟩, HM2.below⟩
                have h1 := outOf_mono next ends cls (take_prefix' od (i + 1))
                rw [HSN.out] at h1
                simp at h1
                omega
              · have hl79 : oc.1.length + 1 ≤ 80 := by omega
                obtain ⟨r, hr⟩ : ∃ r, r = rowOf next s := ⟨_, rfl⟩
                obtain ⟨ad2, A1, c1, eA2, hcell2, hl2, hC1⟩ := row_at HC2.out (i := s) (by rw [← HNN.out]; exact hsN)
                have hr' : r = next.getD s [] := hr
                rw [← hr', I_len] at hcell2 hl2 hC1
                subst eA2
                replace hcell2 := pw_cell_below HM.below hcell2
                have hrn : r.length < 65536 := by rw [hr, show (rowOf next s).length = n from HW.out.row_len (by rw [← HNN.out]; exact hsN)]; exact hn
                have HRT := Aside0.mk (show ∀ t ∈ r, t < N2 by
                  intro t ht
                  rw [hr] at ht
                  rw [HNN.out] at hsN ⊢
                  exact HW.out.lt _ (HW.out.row_mem hsN) t ht)
                have hsE : s < ends.length := by rw [HEN.out]; exact hsN
                obtain ⟨ad3, e3, hcell3⟩ := Kd.at_bool (Kd.C_below HC3.out HM.below) (s : Int) (by omega) (by omega)
                subst e3
                clear hcell3
                rw [← hr] at HSN
                have HR := Aside0.mk hr
                have HC1 := Aside0.mk hC1
                clear hr hr' hC1
                go_wp2
                go_quiet (fail)
                go_wp2
                have HL79 := Aside0.mk hl79
                simp only [show decide (cs < oc.1.length) = false from decide_eq_false HLN.out, show (((oc.1.length : Nat) : Int) == 80) = false from beq_eq_false_iff_ne.2 (by omega)]
                clear hl79 hc80 h80 hl80
                go_loopg [31, 33, 191] r.length (fun gk v31 v33 v191 w' => ∃ l : Nat, v191 = .int .i64 l ∧ Aside0 (gk + l = r.length) ∧ Mem W.heap.size (fun _ => False) W w' [row kI 3 v31 (I ((r.take l).map (fun t => cls.getD t 0))), row kL 26 (.slice AN (II oc.1).length cN) (II oc.1), row kB 4 (.slice AE oc.2.length cE) oc.2, blk go #[.int .i64 base, .int .i64 tracks, .slice AN (II oc.1).length cN, .slice AE oc.2.length cE] 25, row kI 3 (.slice (some ⟨gcl, 0, none⟩) N2 ccl) (I cls), row kI 3 (.slice (some ad10) od.length c10) (I od), blk g8 #[.int .i64 0, .int .i64 0, .slice none 0 0, .slice none 0 0] 25])
                case atStart => exact ⟨0, rfl, ⟨rfl⟩, (HM.drewN _).nil kI 3⟩
                case round =>
                  clear HM hcell2 hcc hbN hfN hbE hcell10
                  obtain ⟨g8', rfl⟩ : ∃ x : Nat, x = gk := ⟨_, rfl⟩
                  obtain ⟨w80, rfl⟩ : ∃ x : World, x = wr := ⟨_, rfl⟩
                  obtain ⟨l, rfl, HKl, HM⟩ := hrel
                  have hll : l ≤ r.length := by have := HKl.out; omega
                  by_cases hl : l < r.length
                  · obtain ⟨ad1, e1, hcell1⟩ := Kd.at_int (show kI.C w80 A1 (I r).length (I r) by rw [I_len]; exact Kd.C_below HC1.out HM.below) (l : Int) (by omega) (by rw [I_len]; omega)
                    subst e1
                    rw [Int.toNat_natCast, rd_I] at hcell1
                    obtain ⟨t, ht⟩ : ∃ t, t = r.getD l 0 := ⟨_, rfl⟩
                    rw [← ht] at hcell1
                    have htN : t < N2 := HRT.out t (by rw [ht, getD_at hl]; exact List.getElem_mem hl)
                    obtain ⟨hct, _⟩ := HM.rowCell (0 : Int) (i := 4) (j := t) rfl (by rw [I_len, HCLEN.out]; exact htN)
                    rw [I_get] at hct
                    obtain ⟨ct, hcte⟩ : ∃ ct, ct = cls.getD t 0 := ⟨_, rfl⟩
                    have hctl : ct ≤ N2 := by rw [hcte]; exact HCLE.out t
                    rw [← hcte] at hct
                    have htk2 : (r.take (l + 1)).map (fun t => cls.getD t 0) = (r.take l).map (fun t => cls.getD t 0) ++ [ct] := by
                      rw [take_snoc' hl, List.map_append, List.map_singleton, hcte, ht, getD_at hl]
                    obtain ⟨rl, hrl⟩ : ∃ rl, rl = (r.take l).map (fun t => cls.getD t 0) := ⟨_, rfl⟩
                    have hrll : rl.length ≤ l := by rw [hrl, List.length_map, List.length_take]; omega
                    rw [← hrl] at HM htk2
                    have HT2 := Aside0.mk htk2
                    clear htk2 hrl ht hcte
                    go_wp2_with (first
                      | ((with_reducible refine gate_dst (N := 201) rfl ?_); (refine HM.append1 0 rfl (.tmp 195) (.tmp 200) 26 3 (.int .i64 0) 8 rfl Try.underlying26 infoI rfl (by decide) _ (I rl) (ct : Int) rfl rfl rfl (by rw [I_len]; omega) ?_; intro v31 w5 HM5; clear HM; rw [← I_snoc] at HM5)))
                    go_roundg (g8' - 1)
                    case measure => have := HKl.out; omega
                    case rel => exact ⟨l + 1, by go_num, ⟨by have := HKl.out; omega⟩, by rw [HT2.out]; exact HM5⟩
                  · obtain rfl : l = r.length := by omega
                    rw [List.take_length] at HM
                    obtain ⟨rw, hrw⟩ : ∃ rw, rw = r.map (fun t => cls.getD t 0) := ⟨_, rfl⟩
                    rw [← hrw] at HM HSN
                    clear hrw
                    obtain ⟨A31, c31, e31, _, _⟩ := HM.rowSlice (i := 0) rfl
                    subst e31
                    have hbN : w80.cell? ⟨go, 2, none⟩ = some (.slice AN (II oc.1).length cN) := (HM.cell (i := 3) rfl 2).1
                    have hfN := (HM.cell (i := 3) rfl 2).2
                    go_wp2_with (first
                      | ((with_reducible refine gate_dst (N := 207) rfl ?_); (refine HM.appendRow 1 0 rfl (.tmp 204) (.tmp 206) 22 26 (.slice none 0 0) 24 rfl Try.underlying22 infoL rfl (by decide) (.slice AN (II oc.1).length cN) (.slice A31 (I rw).length c31) (II oc.1) (I rw) rfl rfl rfl rfl (by rw [II_len]; have := HL79.out; omega) ?_; intro v5 w5 HM5; clear HM; rw [← II_snoc] at HM5; obtain ⟨AN1, cN1, eN1, hcN1, _⟩ := HM5.rowSlice (i := 0) rfl; subst eN1))
                      | ((with_reducible refine gate_store (t := 22) (p := 208) rfl ?_); (refine HM5.storeBlk 2 rfl rfl 22 (.tmp 208) _ rfl _ rfl rfl rfl rfl infoNx1 rfl (by show 2 < 4; decide) ?_; intro w6 HM6; clear HM5)))
                    have hbE : w6.cell? ⟨go, 3, none⟩ = some (.slice AE oc.2.length cE) := (HM6.cell (i := 2) rfl 3).1
                    obtain ⟨ad3', e3, hbe⟩ := Kd.at_bool (Kd.C_below HC3.out HM6.below) (s : Int) (by omega) (by omega)
                    injection e3 with e3
                    subst e3
                    rw [Int.toNat_natCast, rdB] at hbe
                    obtain ⟨be, hbe'⟩ : ∃ be, be = ends.getD s false := ⟨_, rfl⟩
                    rw [← hbe'] at hbe
                    have HBE := Aside0.mk hbe'
                    have HSN2 := Aside0.mk (show outOf next ends cls (od.take (i + 1)) = (oc.1 ++ [rw], oc.2 ++ [be]) by rw [HSN.out, hbe']; rfl)
                    have HOL := Aside0.mk (show oc.2.length ≤ 80 by rw [HOC.out, outOf_len, ← HOC.out]; have := HL79.out; omega)
                    clear hbe' HSN
                    have HM7 := HM6.grow (Below.refl _ _).drew
                    clear HM6
                    go_wp2_with fail
                    refine start_ (n := 10) (S := fun w' => w'.cell? ⟨go, 3, none⟩ = some (.slice AE oc.2.length cE) ∧ w'.cell? (ad3.add s) = some (.bool be)) (ds := [7, 9]) #[false, false, false, false, false, false, false, false, false, false] (by kernel_rfl) rfl rfl ⟨hbE, hbe⟩ (fun hHeld => ?_)
                    generalize w6.drew = w7 at HM7 hHeld ⊢
                    refine pure_ (i := 0) (N := some 209) (v := ?_) (a' := ?_) #[true, false, false, false, false, false, false, false, false, false] rfl rfl (by kernel_rfl) (fun _ _ _ h => h) (Or.inl ⟨by rfl, ?_⟩) ?_ ?_
                    rotate_left
                    · intro w'
                      go_simp
                      with_reducible rfl
                    rotate_left
                    · simp only [Act.put, List.setIfInBounds_toArray, List.set_cons_zero, List.set_cons_succ, i64_w, i32_w]
                      rfl
                    refine pure_ (i := 2) (N := some 211) (v := ?_) (a' := ?_) #[true, false, true, false, false, false, false, false, false, false] rfl rfl (by kernel_rfl) (fun _ _ _ h => h) (Or.inl ⟨by rfl, ?_⟩) ?_ ?_
                    rotate_left
                    · intro w'
                      go_simp
                      with_reducible rfl
                    rotate_left
                    · simp only [Act.put, List.setIfInBounds_toArray, List.set_cons_zero, List.set_cons_succ, i64_w, i32_w]
                      rfl
                    refine pure_ (i := 3) (N := some 212) (v := ?_) (a' := ?_) #[true, false, true, true, false, false, false, false, false, false] rfl rfl (by kernel_rfl) (fun _ _ _ h => h) (Or.inl ⟨by rfl, ?_⟩) ?_ ?_
                    rotate_left
                    · intro w'
                      go_simp
                      with_reducible rfl
                    rotate_left
                    · simp only [Act.put, List.setIfInBounds_toArray, List.set_cons_zero, List.set_cons_succ, i64_w, i32_w]
                      rfl
                    refine pure_ (i := 4) (N := some 213) (v := ?_) (a' := ?_) #[true, false, true, true, true, false, false, false, false, false] rfl rfl (by kernel_rfl) (fun _ _ _ h => h) (Or.inl ⟨by rfl, ?_⟩) ?_ ?_
                    rotate_left
                    · intro w'
                      go_simp
                      with_reducible rfl
                    rotate_left
                    · simp only [Act.put, List.setIfInBounds_toArray, List.set_cons_zero, List.set_cons_succ, i64_w, i32_w]
                      rfl
                    refine take_ (i := 1) (N := some 210) (v := ?_) (a' := ?_) #[true, true, true, true, true, false, false, false, false, false] rfl rfl (by kernel_rfl) (fun _ _ _ h => h) (Or.inl ⟨by rfl, ?_⟩) hHeld ?_ ?_
                    rotate_left
                    · rintro w' ⟨s0, s1⟩
                      go_simp
                      with_reducible rfl
                    rotate_left
                    · simp only [Act.put, List.setIfInBounds_toArray, List.set_cons_zero, List.set_cons_succ, i64_w, i32_w]
                      rfl
                    refine take_ (i := 5) (N := some 214) (v := ?_) (a' := ?_) #[true, true, true, true, true, true, false, false, false, false] rfl rfl (by kernel_rfl) (fun _ _ _ h => h) (Or.inl ⟨by rfl, ?_⟩) hHeld ?_ ?_
                    rotate_left
                    · rintro w' ⟨s0, s1⟩
                      go_simp
                      with_reducible rfl
                    rotate_left
                    · simp only [Act.put, List.setIfInBounds_toArray, List.set_cons_zero, List.set_cons_succ, i64_w, i32_w]
                      rfl
                    refine one_ (i := 6) (N := some 215) #[true, true, true, true, true, true, true, false, false, false] rfl rfl (by kernel_rfl) (by decide) (fun K hK => ?_)
                    refine HM7.litStep (enc := Value.bool) (h1 := fun _ => rfl) 4 (by rfl) (N := 215) rfl [be] ?hr (by simp) ?_
                    (case hr => first | (go_simp; done) | (go_simp; rfl))
                    intro v215 w8 HM8
                    clear HM7
                    refine hK.out _ _ ⟨(HM8.cell (i := 3) rfl 3).1, (by obtain ⟨q, hq, hw⟩ := Kd.at_bool (Kd.C_below HC3.out HM8.below) (s : Int) (by omega) (by omega); injection hq with hq; subst hq; rwa [Int.toNat_natCast, rdB, ← HBE.out] at hw)⟩ (fun hHeld => ?_)
                    clear hK K
                    refine norm_ (a' := ?_) ?_ ?_
                    rotate_left
                    · show Act.put _ (some 215) _ = _
                      simp only [Act.put, List.setIfInBounds_toArray, List.set_cons_zero, List.set_cons_succ, i64_w, i32_w]
                      rfl
                    refine last_ (i := 7) (N := some 216) #[true, true, true, true, true, true, true, true, false, false] rfl rfl (by kernel_rfl) (by decide) (fun K hK => ?_)
                    obtain ⟨A215, c215, e215, _, hC215⟩ := HM8.rowSlice (i := 0) rfl
                    subst e215
                    refine HM8.appendAllStep 2 (by rfl) (.tmp 210) (.tmp 215) 23 4 (.bool false) 1 rfl Try.underlying23 infoB rfl (by decide) (.slice AE oc.2.length cE) oc.2 [be] A215 1 c215 rfl rfl rfl hC215 (by have := HOL.out; omega) ?_
                    intro v216 w9 HM9
                    clear HM8 hC215
                    refine hK.out _ _ ?_
                    clear hK K
                    refine norm_ (a' := ?_) ?_ ?_
                    rotate_left
                    · show Act.put _ (some 216) _ = _
                      simp only [Act.put, List.setIfInBounds_toArray, List.set_cons_zero, List.set_cons_succ, i64_w, i32_w]
                      rfl
                    refine pure_ (i := 8) (N := some 217) (v := ?_) (a' := ?_) #[true, true, true, true, true, true, true, true, true, false] rfl rfl (by kernel_rfl) (fun _ _ _ h => h) (Or.inl ⟨by rfl, ?_⟩) ?_ ?_
                    rotate_left
                    · intro w'
                      go_simp
                      with_reducible rfl
                    rotate_left
                    · simp only [Act.put, List.setIfInBounds_toArray, List.set_cons_zero, List.set_cons_succ, i64_w, i32_w]
                      rfl
                    refine last_ (i := 9) (N := none) #[true, true, true, true, true, true, true, true, true, true] rfl rfl (by kernel_rfl) (by decide) (fun K hK => ?_)
                    obtain ⟨A216, c216, e216, _, _⟩ := HM9.rowSlice (i := 2) rfl
                    subst e216
                    refine HM9.storeBlkStep 3 rfl (by rfl) 23 (.tmp 217) (.tmp 216) rfl _ rfl rfl rfl rfl infoEs1 rfl (by show 3 < 4; decide) ?_
                    intro w10 HM10
                    clear HM9
                    refine hK.out _ _ ?_
                    clear hK K
                    refine done_ (by kernel_rfl) ?_
                    go_wp2
                    go_roundg (g7 - 1)
                    case measure => have := HK.out; omega
                    case rel => exact ⟨i + 1, _, _, by go_num, ⟨by have := HK.out; omega⟩, ⟨by rw [HSN2.out]; simp; have := HL79.out; omega⟩, by rw [HSN2.out]; exact HM10.drop 0⟩
          · obtain rfl : i = od.length := by omega
            obtain ⟨AN, cN, eN, hcN, _⟩ := HM.rowSlice (i := 0) rfl
            obtain ⟨AE, cE, eE, hcE, _⟩ := HM.rowSlice (i := 1) rfl
            subst eN
            subst eE
            go_wp2_with (first
              | ((with_reducible refine gate_dst (N := 219) rfl ?_); (refine HM.loadAll 2 rfl 25 (.tmp 28) rfl _ rfl Try.underlying25 rfl (by exact infoA4) rfl ?_))
              | ((with_reducible refine gate_store (t := 25) (p := 8) rfl ?_); (refine HM.storeAll 5 rfl rfl 25 (.tmp 8) _ rfl rfl rfl (by intro q hq; simp only [List.mem_cons, List.not_mem_nil, or_false] at hq; rcases hq with rfl | rfl | rfl | rfl <;> rfl) (by exact infoA4) rfl rfl ?_; intro w2 HM2; clear HM)))
            rw [List.take_length] at HM2
            refine bodyPost_ret (results_list (rs := [.cell 8 25, .tmp 9]) rfl (by simp) (.cell g8 25 _ (0, 0) _ rfl (HM2.blkAt (i := 5) rfl).1 Try.underlying25 rfl infoA4 (.tmp .nil))) (by rfl) ?_
            have hcan := outOf_can HW.out (j := j) (by rw [← HOD.out]; exact HST.out)
            rw [← HOD.out, ← HCLS.out] at hcan
            have h1 := HM2.rowAt (i := 0) rfl
            have h2 := HM2.rowAt (i := 1) rfl
            have h3 := HL80.out
            rw [List.take_length] at h3
            exact ⟨_, hcan, .inl ⟨h3, _, _, rfl, h1, h2⟩, HM2.below⟩
end Go.Proofs.Ytlffephcbfdknaa.Wk
