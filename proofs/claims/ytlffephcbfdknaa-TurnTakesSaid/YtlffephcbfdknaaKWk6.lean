/- Walk by hand: turn.turned. -/
import Derived.Test.YtlffephcbfdknaaKWk5
import Derived.Test.YtlffephcbfdknaaK1
set_option linter.unusedVariables false
set_option linter.unusedSimpArgs false
namespace Go.Proofs.Ytlffephcbfdknaa.Wk
open Go.RowKit Go.Proofs.YtlffephcbfdknaaW.PrintWords Go.Proofs.YtlffephcbfdknaaW.PrintMore Go.Proofs.YtlffephcbfdknaaW.PrintLast Go.Proofs.Sep Go.Proofs.Fil Go.Proofs.Ytlffephcbfdknaa.Chk Go.Proofs.Ytlffephcbfdknaa.PTurnTakes

theorem infoG1 : (Try.prog.info? 73).map (·.size) = some 1 := by kernel_rfl
/-- the sets that come up when an automaton is turned -/
def turnD (T : Tab) (X : List Nat) (l : Nat) : List Nat := nrm (pre T X l)
def turnO (n : Nat) (T : Tab) (ends : List Bool) : List (List Nat) := bfsI (succs n (turnD T)) (nrm (fin ends T.length)) 2001

set_option maxRecDepth 100000 in
set_option maxHeartbeats 4000000 in
theorem turned_calls (base tracks : Int) (A2 : Option Addr) (c2 : Nat) (l2 : List (List Int)) (A3 : Option Addr) (c3 : Nat) (l3 : List Bool) (W : World) (hC2 : kL.C W A2 l2.length l2) (h2 : l2.length ≤ c2) (hC3 : kB.C W A3 l3.length l3) (h3 : l3.length ≤ c3) :
    Calls Try.prog 21 #[.agg #[.int .i64 base, .int .i64 tracks, .slice A2 l2.length c2, .slice A3 l3.length c3]] W fun e w' => Below W.heap.size W w' ∧
      ((∃ n T out, Ok base tracks l2 l3 n T ∧ Go.Proofs.Fil.Can n (lof n (T, l3) 0) out ∧
          (((turnO n out.1 out.2).length ≤ 2000 ∧ ∃ vs vn, e = .returned (.tuple #[vs, vn, .nilIface]) ∧ kL.R 26 w' W.heap.size (fun _ => True) vs (II (turnO n out.1 out.2)) ∧ kL.R 26 w' W.heap.size (fun _ => True) vn (II (rowsTo n (turnD out.1) (turnO n out.1 out.2) (turnO n out.1 out.2).length))) ∨
           (2000 < (turnO n out.1 out.2).length ∧ e = .returned (.tuple #[.slice none 0 0, .slice none 0 0, errW (some 3)])))) ∨
       ((¬ ∃ n T, Ok base tracks l2 l3 n T) ∧ ∃ x, (x = 1 ∨ x = 2 ∨ x = 3 ∨ x = 4) ∧ e = .returned (.tuple #[.slice none 0 0, .slice none 0 0, errW (some x)]))) := by
  have HC2 := Aside0.mk hC2
  have HC3 := Aside0.mk hC3
  have H2 := Aside0.mk h2
  have H3 := Aside0.mk h3
  clear hC2 hC3 h2 h3
  have HM := Mem.start W
  by_cases hex : ∃ n T, Ok base tracks l2 l3 n T
  · have HEX := Aside0.mk hex
    clear hex
    go_enter Try.func21, Try.ntmps21
    go_upto_block 0 with (first
      | ((with_reducible refine gate_dst (N := 1) rfl ?_); refine box_event ?hg (N := 1) ?hd (cs := #[.int .i64 base, .int .i64 tracks, .slice A2 l2.length c2, .slice A3 l3.length c3]) (t := 25) ?hr ?_; (case hd => rfl); (case hg => rfl); (case hr => first | (go_simp; done) | (go_simp; rfl)); intro g1 hg1 w1 hb1 hbel; have HM1 := HM.blk_ hg1 hb1 hbel; clear HM hg1 hb1 hbel)
      | ((with_reducible refine gate_dst (N := 14) rfl ?_); (refine HM1.loadAll 0 rfl 25 (.tmp 1) rfl _ rfl Try.underlying25 rfl (by exact infoA4) rfl ?_))
      | (go_at_call 10; (refine (least_calls base tracks A2 c2 l2 A3 c3 l3 _ (Kd.C_below HC2.out HM1.below) H2.out (Kd.C_below HC3.out HM1.below) H3.out).mono ?_; rintro e w2 ⟨hb, hcase⟩; rcases hcase with ⟨n, T, out, v2, v3, hok, hcan, rfl, hr2, hr3⟩ | ⟨hno, _⟩; rotate_left; (exact absurd HEX.out hno); obtain ⟨Ao2, co2, rfl⟩ := Kd.R_slice hr2; obtain ⟨Ao3, co3, rfl⟩ := Kd.R_slice hr3; have HB2 := Aside0.mk (HM1.grow hb).below; have HCm := Aside0.mk (Kd.R_reads' hr2).2.2; have HCe := Aside0.mk (Kd.R_reads' hr3).2.2; have HM2 := Mem.start w2; have hwf := hcan.wf; have hle := can_le hok.wf hcan; have hn := manyN_le hok.many; have h80 := hok.small; have HOK := Aside0.mk hok; have HCAN := Aside0.mk hcan; have HWF := Aside0.mk hwf; obtain ⟨T', ends'⟩ := out; obtain ⟨N, hN⟩ : ∃ N, N = T'.length := ⟨_, rfl⟩; have hN80 : N ≤ 80 := (by rw [hN]; exact Nat.le_trans hle h80); have hNp : 0 < N := (by rw [hN]; exact hwf.pos); have HEN := Aside0.mk (show ends'.length = N by rw [hN]; exact hwf.len); have HN := Aside0.mk hN; rw [II_len, ← hN] at ⊢; clear HM1 hb hr2 hr3 hok hcan hwf hle h80 hN))
      | ((with_reducible refine gate_dst (N := 5) rfl ?_); refine box_event ?hg (N := 5) ?hd (cs := #[.int .i64 0, .int .i64 0, .slice none 0 0, .slice none 0 0]) (t := 25) ?hr ?_; (case hd => rfl); (case hg => rfl); (case hr => first | (go_simp; done) | (go_simp; rfl)); intro g5 hg5 w5 hb5 hbel; have HM5 := HM2.blk_ hg5 hb5 hbel; clear HM2 hg5 hb5 hbel)
      | ((with_reducible refine gate_store (t := 25) (p := 5) rfl ?_); (refine HM5.storeAll 0 rfl rfl 25 (.tmp 5) _ rfl (us := #[.int .i64 base, .int .i64 tracks, .slice Ao2 N co2, .slice Ao3 ends'.length co3]) rfl rfl (one4 rfl rfl rfl rfl) (by exact infoA4) rfl rfl ?_; intro w6 HM6; clear HM5))
      | ((with_reducible refine gate_dst (N := 21) rfl ?_); (refine HM6.vmMake rfl 73 62 rfl ?_; intro B w7 HM7; clear HM6))
      | ((with_reducible refine gate_dst (N := 6) rfl ?_); refine box_event ?hg (N := 6) ?hd (cs := #[.map none]) (t := 73) ?hr ?_; (case hd => rfl); (case hg => rfl); (case hr => first | (go_simp; done) | (go_simp; rfl)); intro gf hgf w8 hb8 hbel; have HM8 := HM7.blk_ hgf hb8 hbel; clear HM7 hgf hb8 hbel)
      | ((with_reducible refine gate_store (t := 73) (p := 6) rfl ?_); (refine HM8.storeBlk 0 rfl rfl 73 (.tmp 6) _ rfl _ rfl rfl rfl rfl infoG1 rfl (by show 0 < 1; decide) ?_; intro w9 HM9; clear HM8; have hm2 := (HM9.cell (i := 2) rfl 2).1; simp only [List.getElem?_toArray, List.getElem?_cons_zero, List.getElem?_cons_succ] at hm2)))
    have HM10 := (((((HM9.nils kI 3 (N * n)).swap).front 2 rfl).nil kI 3))
    clear HM9
    obtain ⟨f0, hf0⟩ : ∃ f0 : Lit → Value, f0 = fun _ => nilS := ⟨_, rfl⟩
    have HM : Mem w2.heap.size (fun _ => False) w2 w9 (row kI 3 nilS (I (fin ends' 0)) :: blk g5 #[.int .i64 base, .int .i64 tracks, .slice Ao2 N co2, .slice Ao3 ends'.length co3] 25 :: blk gf #[.map (some B)] 73 :: vm Try.prog 62 B (0 * n) f0 :: rows kI 3 (N * n) (fun j => f0 (klj n j)) (fun j => I (predsOf T' n (pairsTo n 0) j))) := by
      subst hf0
      rw [Nat.zero_mul]
      exact HM10
    clear HM10 hf0
    go_cut [7] (fun v7 wc => ∃ f : Lit → Value, Mem w2.heap.size (fun _ => False) w2 wc (row kI 3 v7 (I (fin ends' N)) :: blk g5 #[.int .i64 base, .int .i64 tracks, .slice Ao2 N co2, .slice Ao3 ends'.length co3] 25 :: blk gf #[.map (some B)] 73 :: vm Try.prog 62 B (N * n) f :: rows kI 3 (N * n) (fun j => f (klj n j)) (fun j => I (predsOf T' n (pairsTo n N) j))))
    case first =>
      go_wp2
      go_loopg [7, 25] N (fun gk v7 v25 w' => ∃ (s : Nat) (f : Lit → Value), v25 = .int .i64 s ∧ Aside0 (gk + s = N) ∧ Mem w2.heap.size (fun _ => False) w2 w' (row kI 3 v7 (I (fin ends' s)) :: blk g5 #[.int .i64 base, .int .i64 tracks, .slice Ao2 N co2, .slice Ao3 ends'.length co3] 25 :: blk gf #[.map (some B)] 73 :: vm Try.prog 62 B (s * n) f :: rows kI 3 (N * n) (fun j => f (klj n j)) (fun j => I (predsOf T' n (pairsTo n s) j))))
      case atStart => exact ⟨0, f0, rfl, ⟨rfl⟩, HM⟩
      case round =>
        clear HM hm2
        obtain ⟨g1', rfl⟩ : ∃ x : Nat, x = gk := ⟨_, rfl⟩
        obtain ⟨w20, rfl⟩ : ∃ x : World, x = wr := ⟨_, rfl⟩
        obtain ⟨s, f, rfl, HK, HM⟩ := hrel
        have hsN : s ≤ N := by have := HK.out; omega
        by_cases hlt : s < N
        · have hm3 : w20.cell? ⟨g5, 3, none⟩ = some (.slice Ao3 ends'.length co3) := (HM.cell (i := 1) rfl 3).1
          obtain ⟨ad2, A1, c1, eA2, hcell2, hl2, hC1⟩ := row_at HCm.out (i := s) (by rw [← HN.out]; exact hlt)
          subst eA2
          obtain ⟨ad3, e3, hcell3⟩ := Kd.at_bool (Kd.C_below HCe.out HM.below) (s : Int) (by omega) (by rw [HEN.out]; omega)
          subst e3
          rw [Int.toNat_natCast, rdB] at hcell3
          have hrl : (T'.getD s []).length = n := HWF.out.row_len (by rw [← HN.out]; exact hlt)
          obtain ⟨r, hr⟩ : ∃ r, r = T'.getD s [] := ⟨_, rfl⟩
          rw [← hr] at hcell2 hl2 hC1 hrl
          rw [I_len, hrl] at hcell2 hl2 hC1
          replace hcell2 := pw_cell_below HM.below hcell2
          have hse : s < ends'.length := by rw [HEN.out]; exact hlt
          have hfl := fin_len ends' s
          have hfs := fin_succ ends' s
          obtain ⟨be, hbe⟩ : ∃ be, be = ends'.getD s false := ⟨_, rfl⟩
          rw [show en ends' s = be from hbe.symm] at hfs
          rw [← hbe] at hcell3
          have HR := Aside0.mk hr
          have HC1 := Aside0.mk hC1
          have HRL := Aside0.mk hrl
          clear hr hC1 hbe hrl
          cases be with
          | true =>
            have HFS := Aside0.mk (hfs.trans (if_pos rfl))
            clear hfs
            go_upto_block 2 with (((with_reducible refine gate_dst (N := 38) rfl ?_); (refine HM.append1 0 rfl (.tmp 35) (.tmp 37) 26 3 (.int .i64 0) 8 rfl Try.underlying26 infoI rfl (by decide) _ (I (fin ends' s)) (s : Int) rfl rfl rfl (by rw [I_len]; omega) ?_; intro v38 w21 HM1; clear HM; rw [← I_snoc, ← HFS.out] at HM1)))
            clear hcell3 hm3 hcell2
            go_wp2
            go_loopg [10, 11, 41] n (fun gk v10 v11 v41 w' => ∃ (l : Nat) (f : Lit → Value), v41 = .int .i64 l ∧ Aside0 (gk + l = n) ∧ Mem w2.heap.size (fun _ => False) w2 w' (row kI 3 v38 (I (fin ends' (s + 1))) :: blk g5 #[.int .i64 base, .int .i64 tracks, .slice (some ad2) N co2, .slice (some ad3) ends'.length co3] 25 :: blk gf #[.map (some B)] 73 :: vm Try.prog 62 B (s * n + l) f :: rows kI 3 (N * n) (fun j => f (klj n j)) (fun j => I (predsOf T' n (pairsIn n s l) j))))
            case atStart => exact ⟨0, f, rfl, ⟨rfl⟩, by rw [pairsIn_zero]; exact HM1⟩
            case round =>
              clear HM1
              obtain ⟨g2, rfl⟩ : ∃ x : Nat, x = gk := ⟨_, rfl⟩
              obtain ⟨w30, rfl⟩ : ∃ x : World, x = wr := ⟨_, rfl⟩
              obtain ⟨l, f, rfl, HKl, HM⟩ := hrel
              have hll : l ≤ n := by have := HKl.out; omega
              by_cases hl : l < n
              · obtain ⟨ad1, e1, hcell1⟩ := Kd.at_int (show kI.C w30 A1 (I r).length (I r) by rw [I_len, HRL.out]; exact Kd.C_below HC1.out HM.below) (l : Int) (by omega) (by rw [I_len, HRL.out]; omega)
                subst e1
                rw [Int.toNat_natCast, rd_I] at hcell1
                obtain ⟨t, ht⟩ : ∃ t, t = r.getD l 0 := ⟨_, rfl⟩
                have htx : t = nx T' s l := by rw [ht, HR.out]; rfl
                rw [← ht] at hcell1
                have htN : t < N := by rw [htx, HN.out]; exact HWF.out.nx_lt (by rw [← HN.out]; exact hlt) hl
                have hj : t * n + l < N * n := by
                  have : (t + 1) * n ≤ N * n := Nat.mul_le_mul_right n htN
                  rw [Nat.add_mul] at this
                  omega
                have hNn : N * n ≤ 2880 := Nat.le_trans (Nat.mul_le_mul hN80 hn.2) (by decide)
                have hsn : s * n + l < 2880 := by
                  have : (s + 1) * n ≤ N * n := Nat.mul_le_mul_right n hlt
                  rw [Nat.add_mul] at this
                  omega
                obtain ⟨j, hjj⟩ : ∃ j, j = t * n + l := ⟨_, rfl⟩
                rw [← hjj] at hj
                have hcf : w30.cell? ⟨gf, 0, none⟩ = some (.map (some B)) := (HM.cell (i := 2) rfl 0).1
                have hkey := key2 (t := t) (l := l) (by omega) (by omega)
                rw [← klj_eq (n := n) hl, ← hjj] at hkey
                have hrun := HM.vmRun (i := 3) keyA Try.underlying73 (zeroL _) rfl hkey
                obtain ⟨pl, hpl⟩ : ∃ pl, pl = predsOf T' n (pairsIn n s l) j := ⟨_, rfl⟩
                have hplen : pl.length ≤ 3000 := by
                  have h1 := predsOf_len T' n (pairsIn n s l) j
                  rw [pairsIn_length, ← hpl] at h1
                  omega
                have hprow : (rows kI 3 (N * n) (fun j => f (klj n j)) (fun j => I (predsOf T' n (pairsIn n s l) j)))[j]? = some (row kI 3 (f (klj n j)) (I pl)) := by rw [rows_at hj, hpl]
                obtain ⟨Av, cv, ev, hcv, _⟩ := HM.rowSlice (i := j + 4) hprow
                rw [ev] at hrun hprow
                have HPROW := Aside0.mk hprow
                have HJ := Aside0.mk hjj
                have HTX := Aside0.mk htx
                have HPL := Aside0.mk hpl
                have HKEY := Aside0.mk hkey
                have HEV := Aside0.mk ev
                have HM2 := HM.grow (Below.refl _ _).drew
                clear HM hjj htx hpl hkey ev ht hprow
                go_wp2_with fail
                refine start_ (n := 13) (S := fun w' => w'.cell? ⟨gf, 0, none⟩ = some (.map (some B)) ∧ (Instr.lookup 73 (.map (some B)) (.agg #[.int .i64 (t : Int), .int .i64 (l : Int)]) false).run Try.prog w' = .ok (.slice Av (I pl).length cv) w') (ds := [12]) #[false, false, false, false, false, false, false, false, false, false, false, false, false] (by kernel_rfl) rfl rfl ⟨hcf, (HEV.out ▸ HM2.vmRun (i := 3) keyA Try.underlying73 (zeroL _) rfl HKEY.out)⟩ (fun hHeld => ?_)
                generalize w30.drew = w31 at HM2 hHeld ⊢
                refine pure_ (i := 1) (N := some 47) (v := ?_) (a' := ?_) #[false, true, false, false, false, false, false, false, false, false, false, false, false] rfl rfl (by kernel_rfl) (fun _ _ _ h => h) (Or.inl ⟨by rfl, ?_⟩) ?_ ?_
                rotate_left
                · intro w'
                  go_simp
                  with_reducible rfl
                rotate_left
                · simp only [Act.put, List.setIfInBounds_toArray, List.set_cons_zero, List.set_cons_succ, i64_w, i32_w]
                  rfl
                refine pure_ (i := 2) (N := some 48) (v := ?_) (a' := ?_) #[false, true, true, false, false, false, false, false, false, false, false, false, false] rfl rfl (by kernel_rfl) (fun _ _ _ h => h) (Or.inl ⟨by rfl, ?_⟩) ?_ ?_
                rotate_left
                · intro w'
                  go_simp
                  with_reducible rfl
                rotate_left
                · simp only [Act.put, List.setIfInBounds_toArray, List.set_cons_zero, List.set_cons_succ, i64_w, i32_w]
                  rfl
                refine pure_ (i := 3) (N := some 49) (v := ?_) (a' := ?_) #[false, true, true, true, false, false, false, false, false, false, false, false, false] rfl rfl (by kernel_rfl) (fun _ _ _ h => h) (Or.inl ⟨by rfl, ?_⟩) ?_ ?_
                rotate_left
                · intro w'
                  go_simp
                  with_reducible rfl
                rotate_left
                · simp only [Act.put, List.setIfInBounds_toArray, List.set_cons_zero, List.set_cons_succ, i64_w, i32_w]
                  rfl
                refine pure_ (i := 5) (N := some 51) (v := ?_) (a' := ?_) #[false, true, true, true, false, true, false, false, false, false, false, false, false] rfl rfl (by kernel_rfl) (fun _ _ _ h => h) (Or.inl ⟨by rfl, ?_⟩) ?_ ?_
                rotate_left
                · intro w'
                  go_simp
                  with_reducible rfl
                rotate_left
                · simp only [Act.put, List.setIfInBounds_toArray, List.set_cons_zero, List.set_cons_succ, i64_w, i32_w]
                  rfl
                refine pure_ (i := 6) (N := some 52) (v := ?_) (a' := ?_) #[false, true, true, true, false, true, true, false, false, false, false, false, false] rfl rfl (by kernel_rfl) (fun _ _ _ h => h) (Or.inl ⟨by rfl, ?_⟩) ?_ ?_
                rotate_left
                · intro w'
                  go_simp
                  with_reducible rfl
                rotate_left
                · simp only [Act.put, List.setIfInBounds_toArray, List.set_cons_zero, List.set_cons_succ, i64_w, i32_w]
                  rfl
                refine pure_ (i := 7) (N := some 53) (v := ?_) (a' := ?_) #[false, true, true, true, false, true, true, true, false, false, false, false, false] rfl rfl (by kernel_rfl) (fun _ _ _ h => h) (Or.inl ⟨by rfl, ?_⟩) ?_ ?_
                rotate_left
                · intro w'
                  go_simp
                  with_reducible rfl
                rotate_left
                · simp only [Act.put, List.setIfInBounds_toArray, List.set_cons_zero, List.set_cons_succ, i64_w, i32_w]
                  rfl
                refine pure_ (i := 9) (N := some 55) (v := ?_) (a' := ?_) #[false, true, true, true, false, true, true, true, false, true, false, false, false] rfl rfl (by kernel_rfl) (fun _ _ _ h => h) (Or.inl ⟨by rfl, ?_⟩) ?_ ?_
                rotate_left
                · intro w'
                  go_simp
                  with_reducible rfl
                rotate_left
                · simp only [Act.put, List.setIfInBounds_toArray, List.set_cons_zero, List.set_cons_succ, i64_w, i32_w]
                  rfl
                refine take_ (i := 0) (N := some 46) (v := ?_) (a' := ?_) #[true, true, true, true, false, true, true, true, false, true, false, false, false] rfl rfl (by kernel_rfl) (fun _ _ _ h => h) (Or.inl ⟨by rfl, ?_⟩) hHeld ?_ ?_
                rotate_left
                · rintro w' ⟨s0, s1⟩
                  go_simp
                  with_reducible rfl
                rotate_left
                · simp only [Act.put, List.setIfInBounds_toArray, List.set_cons_zero, List.set_cons_succ, i64_w, i32_w]
                  rfl
                refine take_ (i := 4) (N := some 50) (v := ?_) (a' := ?_) #[true, true, true, true, true, true, true, true, false, true, false, false, false] rfl rfl (by kernel_rfl) (fun _ _ _ h => h) (Or.inl ⟨by rfl, ?_⟩) hHeld ?_ ?_
                rotate_left
                · rintro w' ⟨s0, s1⟩
                  go_simp
                  with_reducible rfl
                rotate_left
                · simp only [Act.put, List.setIfInBounds_toArray, List.set_cons_zero, List.set_cons_succ, i64_w, i32_w]
                  rfl
                refine take_ (i := 8) (N := some 54) (v := ?_) (a' := ?_) #[true, true, true, true, true, true, true, true, true, true, false, false, false] rfl rfl (by kernel_rfl) (fun _ _ _ h => h) (Or.inl ⟨by rfl, ?_⟩) hHeld ?_ ?_
                rotate_left
                · rintro w' ⟨s0, s1⟩
                  go_simp
                  with_reducible rfl
                rotate_left
                · simp only [Act.put, List.setIfInBounds_toArray, List.set_cons_zero, List.set_cons_succ, i64_w, i32_w]
                  rfl
                refine one_ (i := 10) (N := some 56) #[true, true, true, true, true, true, true, true, true, true, true, false, false] rfl rfl (by kernel_rfl) (by decide) (fun K hK => ?_)
                refine HM2.litStep (enc := Value.int .i64) (h1 := fun _ => rfl) 3 (by rfl) (N := 56) rfl [(s : Int)] ?hr (by simp) ?_
                (case hr => first | (go_simp; done) | (go_simp; rfl))
                intro v56 w32 HM3
                clear HM2
                refine hK.out _ _ ⟨(HM3.cell (i := 3) rfl 0).1, (HEV.out ▸ HM3.vmRun (i := 4) keyA Try.underlying73 (zeroL _) rfl HKEY.out)⟩ (fun hHeld => ?_)
                clear hK K
                refine norm_ (a' := ?_) ?_ ?_
                rotate_left
                · show Act.put _ (some 56) _ = _
                  simp only [Act.put, List.setIfInBounds_toArray, List.set_cons_zero, List.set_cons_succ, i64_w, i32_w]
                  rfl
                refine one_ (i := 11) (N := some 57) #[true, true, true, true, true, true, true, true, true, true, true, true, false] rfl rfl (by kernel_rfl) (by decide) (fun K hK => ?_)
                obtain ⟨A56, c56, e56, _, hC56⟩ := HM3.rowSlice (i := 0) rfl
                subst e56
                refine HM3.appendAllStep (j + 5) (by rfl) (.tmp 54) (.tmp 56) 26 3 (.int .i64 0) 8 rfl Try.underlying26 infoI rfl (by decide) (.slice Av (I pl).length cv) (I pl) [(s : Int)] A56 1 c56 rfl rfl HPROW.out hC56 (by rw [I_len]; omega) ?_
                intro v57 w33 HM4
                clear HM3 hC56
                refine hK.out _ _ ⟨(HM4.cell (i := 3) rfl 0).1, (HEV.out ▸ HM4.vmRun (i := 4) keyA Try.underlying73 (zeroL _) rfl HKEY.out)⟩ (fun hHeld => ?_)
                clear hK K
                refine norm_ (a' := ?_) ?_ ?_
                rotate_left
                · show Act.put _ (some 57) _ = _
                  simp only [Act.put, List.setIfInBounds_toArray, List.set_cons_zero, List.set_cons_succ, i64_w, i32_w]
                  rfl
                refine last_ (i := 12) (N := none) #[true, true, true, true, true, true, true, true, true, true, true, true, true] rfl rfl (by kernel_rfl) (by decide) (fun K hK => ?_)
                refine HM4.vmPutStep 4 (by rfl) rfl (.tmp 46) (.tmp 49) (.tmp 57) 73 62 26 rfl keyA Try.underlying73 B (s * n + l) f (by unfold maxLen; omega) rfl rfl _ (klj n j) rfl HKEY.out v57 rfl ?_
                intro w34 HM5
                clear HM4
                refine hK.out _ _ ?_
                clear hK K
                refine done_ (by kernel_rfl) ?_
                obtain ⟨f', hf'⟩ : ∃ f' : Lit → Value, f' = fun l' => if l' = klj n j then v57 else f l' := ⟨_, rfl⟩
                have hfj : f' (klj n j) = v57 := by rw [hf']; simp
                have hfo : ∀ i, i < N * n → i ≠ j → f' (klj n i) = f (klj n i) := fun i hi hij => by
                  rw [hf']
                  have : klj n i ≠ klj n j := fun h => hij (klj_inj (by omega) (by omega) (by omega) (by omega) h)
                  simp [this]
                have hps : ∀ i, predsOf T' n (pairsIn n s (l + 1)) i = if j = i then predsOf T' n (pairsIn n s l) i ++ [s] else predsOf T' n (pairsIn n s l) i := fun i => by
                  rw [pairsIn_succ, predsOf_snoc, ← HTX.out, ← HJ.out]
                have hset := rows_set kI 3 (N * n) (fun i => f (klj n i)) (fun i => f' (klj n i)) (fun i => I (predsOf T' n (pairsIn n s l) i)) (fun i => I (predsOf T' n (pairsIn n s (l + 1)) i)) j hfo (fun i hi hij => by
                  show I _ = I _
                  rw [hps, if_neg (fun h => hij h.symm)])
                have hpj : I (predsOf T' n (pairsIn n s (l + 1)) j) = I pl ++ [(s : Int)] := by rw [hps, if_pos rfl, ← HPL.out, I_snoc]
                rw [hfj, hpj] at hset
                have HM6 : Mem w2.heap.size (fun _ => False) w2 w34 (row kI 3 v38 (I (fin ends' (s + 1))) :: blk g5 #[.int .i64 base, .int .i64 tracks, .slice (some ad2) N co2, .slice (some ad3) ends'.length co3] 25 :: blk gf #[.map (some B)] 73 :: vm Try.prog 62 B (s * n + l + 1) f' :: rows kI 3 (N * n) (fun i => f' (klj n i)) (fun i => I (predsOf T' n (pairsIn n s (l + 1)) i))) := by
                  rw [← hset, hf']
                  exact HM5.drop 0
                clear HM5 hset hpj hfj hfo hps hf' hcf hrun
                go_wp2
                go_roundg (g2 - 1)
                case measure => have := HKl.out; omega
                case rel => exact ⟨l + 1, f', by go_num, ⟨by have := HKl.out; omega⟩, HM6⟩
              · obtain rfl : l = n := by omega
                rw [pairsIn_all] at HM
                go_wp2
                go_roundg (g1' - 1)
                case measure => have := HK.out; omega
                case rel => exact ⟨s + 1, f, by go_num, ⟨by have := HK.out; omega⟩, by rw [Nat.add_mul, Nat.one_mul]; exact HM⟩
          | false =>
            have HFS := Aside0.mk (hfs.trans (if_neg (by decide)))
            clear hfs
            go_upto_block 2 with (fail)
            obtain ⟨v38, rfl⟩ : ∃ x : Value, x = u7 := ⟨_, rfl⟩
            have HM1 := HM
            rw [← HFS.out] at HM1
            clear HM hcell3 hm3 hcell2
            go_wp2
            go_loopg [10, 11, 41] n (fun gk v10 v11 v41 w' => ∃ (l : Nat) (f : Lit → Value), v41 = .int .i64 l ∧ Aside0 (gk + l = n) ∧ Mem w2.heap.size (fun _ => False) w2 w' (row kI 3 v38 (I (fin ends' (s + 1))) :: blk g5 #[.int .i64 base, .int .i64 tracks, .slice (some ad2) N co2, .slice (some ad3) ends'.length co3] 25 :: blk gf #[.map (some B)] 73 :: vm Try.prog 62 B (s * n + l) f :: rows kI 3 (N * n) (fun j => f (klj n j)) (fun j => I (predsOf T' n (pairsIn n s l) j))))
            case atStart => exact ⟨0, f, rfl, ⟨rfl⟩, by rw [pairsIn_zero]; exact HM1⟩
            case round =>
              clear HM1
              obtain ⟨g2, rfl⟩ : ∃ x : Nat, x = gk := ⟨_, rfl⟩
              obtain ⟨w30, rfl⟩ : ∃ x : World, x = wr := ⟨_, rfl⟩
              obtain ⟨l, f, rfl, HKl, HM⟩ := hrel
              have hll : l ≤ n := by have := HKl.out; omega
              by_cases hl : l < n
              · obtain ⟨ad1, e1, hcell1⟩ := Kd.at_int (show kI.C w30 A1 (I r).length (I r) by rw [I_len, HRL.out]; exact Kd.C_below HC1.out HM.below) (l : Int) (by omega) (by rw [I_len, HRL.out]; omega)
                subst e1
                rw [Int.toNat_natCast, rd_I] at hcell1
                obtain ⟨t, ht⟩ : ∃ t, t = r.getD l 0 := ⟨_, rfl⟩
                have htx : t = nx T' s l := by rw [ht, HR.out]; rfl
                rw [← ht] at hcell1
                have htN : t < N := by rw [htx, HN.out]; exact HWF.out.nx_lt (by rw [← HN.out]; exact hlt) hl
                have hj : t * n + l < N * n := by
                  have : (t + 1) * n ≤ N * n := Nat.mul_le_mul_right n htN
                  rw [Nat.add_mul] at this
                  omega
                have hNn : N * n ≤ 2880 := Nat.le_trans (Nat.mul_le_mul hN80 hn.2) (by decide)
                have hsn : s * n + l < 2880 := by
                  have : (s + 1) * n ≤ N * n := Nat.mul_le_mul_right n hlt
                  rw [Nat.add_mul] at this
                  omega
                obtain ⟨j, hjj⟩ : ∃ j, j = t * n + l := ⟨_, rfl⟩
                rw [← hjj] at hj
                have hcf : w30.cell? ⟨gf, 0, none⟩ = some (.map (some B)) := (HM.cell (i := 2) rfl 0).1
                have hkey := key2 (t := t) (l := l) (by omega) (by omega)
                rw [← klj_eq (n := n) hl, ← hjj] at hkey
                have hrun := HM.vmRun (i := 3) keyA Try.underlying73 (zeroL _) rfl hkey
                obtain ⟨pl, hpl⟩ : ∃ pl, pl = predsOf T' n (pairsIn n s l) j := ⟨_, rfl⟩
                have hplen : pl.length ≤ 3000 := by
                  have h1 := predsOf_len T' n (pairsIn n s l) j
                  rw [pairsIn_length, ← hpl] at h1
                  omega
                have hprow : (rows kI 3 (N * n) (fun j => f (klj n j)) (fun j => I (predsOf T' n (pairsIn n s l) j)))[j]? = some (row kI 3 (f (klj n j)) (I pl)) := by rw [rows_at hj, hpl]
                obtain ⟨Av, cv, ev, hcv, _⟩ := HM.rowSlice (i := j + 4) hprow
                rw [ev] at hrun hprow
                have HPROW := Aside0.mk hprow
                have HJ := Aside0.mk hjj
                have HTX := Aside0.mk htx
                have HPL := Aside0.mk hpl
                have HKEY := Aside0.mk hkey
                have HEV := Aside0.mk ev
                have HM2 := HM.grow (Below.refl _ _).drew
                clear HM hjj htx hpl hkey ev ht hprow
                go_wp2_with fail
                refine start_ (n := 13) (S := fun w' => w'.cell? ⟨gf, 0, none⟩ = some (.map (some B)) ∧ (Instr.lookup 73 (.map (some B)) (.agg #[.int .i64 (t : Int), .int .i64 (l : Int)]) false).run Try.prog w' = .ok (.slice Av (I pl).length cv) w') (ds := [12]) #[false, false, false, false, false, false, false, false, false, false, false, false, false] (by kernel_rfl) rfl rfl ⟨hcf, (HEV.out ▸ HM2.vmRun (i := 3) keyA Try.underlying73 (zeroL _) rfl HKEY.out)⟩ (fun hHeld => ?_)
                generalize w30.drew = w31 at HM2 hHeld ⊢
                refine pure_ (i := 1) (N := some 47) (v := ?_) (a' := ?_) #[false, true, false, false, false, false, false, false, false, false, false, false, false] rfl rfl (by kernel_rfl) (fun _ _ _ h => h) (Or.inl ⟨by rfl, ?_⟩) ?_ ?_
                rotate_left
                · intro w'
                  go_simp
                  with_reducible rfl
                rotate_left
                · simp only [Act.put, List.setIfInBounds_toArray, List.set_cons_zero, List.set_cons_succ, i64_w, i32_w]
                  rfl
                refine pure_ (i := 2) (N := some 48) (v := ?_) (a' := ?_) #[false, true, true, false, false, false, false, false, false, false, false, false, false] rfl rfl (by kernel_rfl) (fun _ _ _ h => h) (Or.inl ⟨by rfl, ?_⟩) ?_ ?_
                rotate_left
                · intro w'
                  go_simp
                  with_reducible rfl
                rotate_left
                · simp only [Act.put, List.setIfInBounds_toArray, List.set_cons_zero, List.set_cons_succ, i64_w, i32_w]
                  rfl
                refine pure_ (i := 3) (N := some 49) (v := ?_) (a' := ?_) #[false, true, true, true, false, false, false, false, false, false, false, false, false] rfl rfl (by kernel_rfl) (fun _ _ _ h => h) (Or.inl ⟨by rfl, ?_⟩) ?_ ?_
                rotate_left
                · intro w'
                  go_simp
                  with_reducible rfl
                rotate_left
                · simp only [Act.put, List.setIfInBounds_toArray, List.set_cons_zero, List.set_cons_succ, i64_w, i32_w]
                  rfl
                refine pure_ (i := 5) (N := some 51) (v := ?_) (a' := ?_) #[false, true, true, true, false, true, false, false, false, false, false, false, false] rfl rfl (by kernel_rfl) (fun _ _ _ h => h) (Or.inl ⟨by rfl, ?_⟩) ?_ ?_
                rotate_left
                · intro w'
                  go_simp
                  with_reducible rfl
                rotate_left
                · simp only [Act.put, List.setIfInBounds_toArray, List.set_cons_zero, List.set_cons_succ, i64_w, i32_w]
                  rfl
                refine pure_ (i := 6) (N := some 52) (v := ?_) (a' := ?_) #[false, true, true, true, false, true, true, false, false, false, false, false, false] rfl rfl (by kernel_rfl) (fun _ _ _ h => h) (Or.inl ⟨by rfl, ?_⟩) ?_ ?_
                rotate_left
                · intro w'
                  go_simp
                  with_reducible rfl
                rotate_left
                · simp only [Act.put, List.setIfInBounds_toArray, List.set_cons_zero, List.set_cons_succ, i64_w, i32_w]
                  rfl
                refine pure_ (i := 7) (N := some 53) (v := ?_) (a' := ?_) #[false, true, true, true, false, true, true, true, false, false, false, false, false] rfl rfl (by kernel_rfl) (fun _ _ _ h => h) (Or.inl ⟨by rfl, ?_⟩) ?_ ?_
                rotate_left
                · intro w'
                  go_simp
                  with_reducible rfl
                rotate_left
                · simp only [Act.put, List.setIfInBounds_toArray, List.set_cons_zero, List.set_cons_succ, i64_w, i32_w]
                  rfl
                refine pure_ (i := 9) (N := some 55) (v := ?_) (a' := ?_) #[false, true, true, true, false, true, true, true, false, true, false, false, false] rfl rfl (by kernel_rfl) (fun _ _ _ h => h) (Or.inl ⟨by rfl, ?_⟩) ?_ ?_
                rotate_left
                · intro w'
                  go_simp
                  with_reducible rfl
                rotate_left
                · simp only [Act.put, List.setIfInBounds_toArray, List.set_cons_zero, List.set_cons_succ, i64_w, i32_w]
                  rfl
                refine take_ (i := 0) (N := some 46) (v := ?_) (a' := ?_) #[true, true, true, true, false, true, true, true, false, true, false, false, false] rfl rfl (by kernel_rfl) (fun _ _ _ h => h) (Or.inl ⟨by rfl, ?_⟩) hHeld ?_ ?_
                rotate_left
                · rintro w' ⟨s0, s1⟩
                  go_simp
                  with_reducible rfl
                rotate_left
                · simp only [Act.put, List.setIfInBounds_toArray, List.set_cons_zero, List.set_cons_succ, i64_w, i32_w]
                  rfl
                refine take_ (i := 4) (N := some 50) (v := ?_) (a' := ?_) #[true, true, true, true, true, true, true, true, false, true, false, false, false] rfl rfl (by kernel_rfl) (fun _ _ _ h => h) (Or.inl ⟨by rfl, ?_⟩) hHeld ?_ ?_
                rotate_left
                · rintro w' ⟨s0, s1⟩
                  go_simp
                  with_reducible rfl
                rotate_left
                · simp only [Act.put, List.setIfInBounds_toArray, List.set_cons_zero, List.set_cons_succ, i64_w, i32_w]
                  rfl
                refine take_ (i := 8) (N := some 54) (v := ?_) (a' := ?_) #[true, true, true, true, true, true, true, true, true, true, false, false, false] rfl rfl (by kernel_rfl) (fun _ _ _ h => h) (Or.inl ⟨by rfl, ?_⟩) hHeld ?_ ?_
                rotate_left
                · rintro w' ⟨s0, s1⟩
                  go_simp
                  with_reducible rfl
                rotate_left
                · simp only [Act.put, List.setIfInBounds_toArray, List.set_cons_zero, List.set_cons_succ, i64_w, i32_w]
                  rfl
                refine one_ (i := 10) (N := some 56) #[true, true, true, true, true, true, true, true, true, true, true, false, false] rfl rfl (by kernel_rfl) (by decide) (fun K hK => ?_)
                refine HM2.litStep (enc := Value.int .i64) (h1 := fun _ => rfl) 3 (by rfl) (N := 56) rfl [(s : Int)] ?hr (by simp) ?_
                (case hr => first | (go_simp; done) | (go_simp; rfl))
                intro v56 w32 HM3
                clear HM2
                refine hK.out _ _ ⟨(HM3.cell (i := 3) rfl 0).1, (HEV.out ▸ HM3.vmRun (i := 4) keyA Try.underlying73 (zeroL _) rfl HKEY.out)⟩ (fun hHeld => ?_)
                clear hK K
                refine norm_ (a' := ?_) ?_ ?_
                rotate_left
                · show Act.put _ (some 56) _ = _
                  simp only [Act.put, List.setIfInBounds_toArray, List.set_cons_zero, List.set_cons_succ, i64_w, i32_w]
                  rfl
                refine one_ (i := 11) (N := some 57) #[true, true, true, true, true, true, true, true, true, true, true, true, false] rfl rfl (by kernel_rfl) (by decide) (fun K hK => ?_)
                obtain ⟨A56, c56, e56, _, hC56⟩ := HM3.rowSlice (i := 0) rfl
                subst e56
                refine HM3.appendAllStep (j + 5) (by rfl) (.tmp 54) (.tmp 56) 26 3 (.int .i64 0) 8 rfl Try.underlying26 infoI rfl (by decide) (.slice Av (I pl).length cv) (I pl) [(s : Int)] A56 1 c56 rfl rfl HPROW.out hC56 (by rw [I_len]; omega) ?_
                intro v57 w33 HM4
                clear HM3 hC56
                refine hK.out _ _ ⟨(HM4.cell (i := 3) rfl 0).1, (HEV.out ▸ HM4.vmRun (i := 4) keyA Try.underlying73 (zeroL _) rfl HKEY.out)⟩ (fun hHeld => ?_)
                clear hK K
                refine norm_ (a' := ?_) ?_ ?_
                rotate_left
                · show Act.put _ (some 57) _ = _
                  simp only [Act.put, List.setIfInBounds_toArray, List.set_cons_zero, List.set_cons_succ, i64_w, i32_w]
                  rfl
                refine last_ (i := 12) (N := none) #[true, true, true, true, true, true, true, true, true, true, true, true, true] rfl rfl (by kernel_rfl) (by decide) (fun K hK => ?_)
                refine HM4.vmPutStep 4 (by rfl) rfl (.tmp 46) (.tmp 49) (.tmp 57) 73 62 26 rfl keyA Try.underlying73 B (s * n + l) f (by unfold maxLen; omega) rfl rfl _ (klj n j) rfl HKEY.out v57 rfl ?_
                intro w34 HM5
                clear HM4
                refine hK.out _ _ ?_
                clear hK K
                refine done_ (by kernel_rfl) ?_
                obtain ⟨f', hf'⟩ : ∃ f' : Lit → Value, f' = fun l' => if l' = klj n j then v57 else f l' := ⟨_, rfl⟩
                have hfj : f' (klj n j) = v57 := by rw [hf']; simp
                have hfo : ∀ i, i < N * n → i ≠ j → f' (klj n i) = f (klj n i) := fun i hi hij => by
                  rw [hf']
                  have : klj n i ≠ klj n j := fun h => hij (klj_inj (by omega) (by omega) (by omega) (by omega) h)
                  simp [this]
                have hps : ∀ i, predsOf T' n (pairsIn n s (l + 1)) i = if j = i then predsOf T' n (pairsIn n s l) i ++ [s] else predsOf T' n (pairsIn n s l) i := fun i => by
                  rw [pairsIn_succ, predsOf_snoc, ← HTX.out, ← HJ.out]
                have hset := rows_set kI 3 (N * n) (fun i => f (klj n i)) (fun i => f' (klj n i)) (fun i => I (predsOf T' n (pairsIn n s l) i)) (fun i => I (predsOf T' n (pairsIn n s (l + 1)) i)) j hfo (fun i hi hij => by
                  show I _ = I _
                  rw [hps, if_neg (fun h => hij h.symm)])
                have hpj : I (predsOf T' n (pairsIn n s (l + 1)) j) = I pl ++ [(s : Int)] := by rw [hps, if_pos rfl, ← HPL.out, I_snoc]
                rw [hfj, hpj] at hset
                have HM6 : Mem w2.heap.size (fun _ => False) w2 w34 (row kI 3 v38 (I (fin ends' (s + 1))) :: blk g5 #[.int .i64 base, .int .i64 tracks, .slice (some ad2) N co2, .slice (some ad3) ends'.length co3] 25 :: blk gf #[.map (some B)] 73 :: vm Try.prog 62 B (s * n + l + 1) f' :: rows kI 3 (N * n) (fun i => f' (klj n i)) (fun i => I (predsOf T' n (pairsIn n s (l + 1)) i))) := by
                  rw [← hset, hf']
                  exact HM5.drop 0
                clear HM5 hset hpj hfj hfo hps hf' hcf hrun
                go_wp2
                go_roundg (g2 - 1)
                case measure => have := HKl.out; omega
                case rel => exact ⟨l + 1, f', by go_num, ⟨by have := HKl.out; omega⟩, HM6⟩
              · obtain rfl : l = n := by omega
                rw [pairsIn_all] at HM
                go_wp2
                go_roundg (g1' - 1)
                case measure => have := HK.out; omega
                case rel => exact ⟨s + 1, f, by go_num, ⟨by have := HK.out; omega⟩, by rw [Nat.add_mul, Nat.one_mul]; exact HM⟩
        · obtain rfl : s = N := by omega
          go_wp2
          go_meet
          case rel => exact ⟨f, HM⟩
    case rest =>
      clear HM
      obtain ⟨f, HM⟩ := hcut
      obtain ⟨A7, c7, e7, hc7, _⟩ := HM.rowSlice (i := 0) rfl
      subst e7
      have hm3 : wc.cell? ⟨g5, 2, none⟩ = some (.slice Ao2 N co2) := (HM.cell (i := 1) rfl 2).1
      obtain ⟨ad2, A1, c1, eA2, hcell2, hl2, hC1⟩ := row_at HCm.out (i := 0) (by rw [← HN.out]; exact hNp)
      subst eA2
      rw [I_len, HWF.out.row_len (s := 0) (by rw [← HN.out]; exact hNp)] at hcell2 hl2 hC1
      replace hcell2 := pw_cell_below HM.below hcell2
      have hcell20 : wc.cell? ad2 = some (.slice A1 n c1) := by have h := hcell2; rw [Addr.add, if_pos rfl] at h; exact h
      have HMG := HM.drop 1
      have HBEL := Aside0.mk (HB2.out.trans (HM.below.mono (HB2.out.size)))
      clear HM hC1 hm2
      have hsuc : succs n (fun X l => nrm (X.flatMap fun t => predsOf T' n (pairsTo n N) (t * n + l))) = succs n (turnD T') := by
        funext X
        refine List.map_congr_left (fun l hl => nrm_congr (fun x => ?_))
        rw [HN.out]
        exact mem_gather (List.mem_range.1 hl)
      have hO : bfsI (succs n fun X l => nrm (X.flatMap fun t => predsOf T' n (pairsTo n N) (t * n + l))) (nrm (fin ends' N)) 2001 = turnO n T' ends' := by
        unfold turnO
        rw [hsuc, HN.out]
      have hR : ∀ P : List (List Nat), rowsTo n (fun X l => nrm (X.flatMap fun t => predsOf T' n (pairsTo n N) (t * n + l))) P P.length = rowsTo n (turnD T') P P.length := fun P => by
        unfold rowsTo
        rw [hsuc]
      have hS : Steps w2.heap.size (fun _ => False) w2 (blk gf #[.map (some B)] 73 :: vm Try.prog 62 B (N * n) f :: rows kI 3 (N * n) (fun j => f (klj n j)) (fun j => I (predsOf T' n (pairsTo n N) j))) (.func (.func 41) #[] #[.pointer (some ⟨gf, 0, none⟩)]) n (fun X l => X.flatMap fun t => predsOf T' n (pairsTo n N) (t * n + l)) (fun X => (∃ Y, X = nrm Y) ∧ ∀ x ∈ X, x < N) := by
        have hpl : ∀ j, (predsOf T' n (pairsTo n N) j).length ≤ 3000 := fun j => by
          have h1 := predsOf_len T' n (pairsTo n N) j
          rw [pairsTo_length] at h1
          have h2 : N * n ≤ 2880 := Nat.le_trans (Nat.mul_le_mul hN80 hn.2) (by decide)
          omega
        have hlt : ∀ (X : List Nat) (l : Nat), l < n → ∀ x ∈ X.flatMap (fun t => predsOf T' n (pairsTo n N) (t * n + l)), x < N := fun X l hl x hx => by
          rw [HN.out] at hx ⊢
          exact (mem_pre.1 ((mem_gather hl).1 hx)).1
        refine ⟨⟨_, _, _, rfl, Try.func41, by kernel_rfl, rfl, ?_⟩, ?_, ?_, ?_, ?_⟩
        · rintro X ⟨⟨Y, rfl⟩, hX⟩ l hl w Lx A c hMw hC hle
          exact turned1_calls N n (by omega) (by omega) gf B (N * n) f (predsOf T' n (pairsTo n N)) hpl (nrm Y) hX (nrm_len Y) l hl A c hMw hC
        · rintro X ⟨_, hX⟩ x hx
          have := hX x hx
          omega
        · rintro X _ l hl x hx
          have := hlt X l hl x hx
          omega
        · rintro X ⟨⟨Y, rfl⟩, _⟩ l hl
          have h1 : ∀ (Z : List Nat), (Z.flatMap fun t => predsOf T' n (pairsTo n N) (t * n + l)).length ≤ Z.length * 3000 := by
            intro Z
            induction Z with
            | nil => simp
            | cons z Z ih =>
              rw [List.flatMap_cons, List.length_append, List.length_cons]
              have := hpl (z * n + l)
              omega
          have h2 := h1 (nrm Y)
          have h3 := nrm_len Y
          omega
        · rintro X _ l hl
          refine ⟨⟨_, rfl⟩, fun x hx => ?_⟩
          exact hlt X l hl x (mem_nrm.1 hx).2
      have HS := Aside0.mk hS
      have HO := Aside0.mk hO
      have HR := Aside0.mk hR
      clear hS hO hR hsuc
      have hfl : (fin ends' N).length ≤ N := fin_len ends' N
      have HF256 := Aside0.mk (show ∀ x ∈ fin ends' N, x < 256 from fun x hx => by have := (mem_fin.1 hx).1; omega)
      have HGF := Aside0.mk (show (∃ Y, nrm (fin ends' N) = nrm Y) ∧ ∀ x ∈ nrm (fin ends' N), x < N from ⟨⟨_, rfl⟩, fun x hx => (mem_fin.1 (mem_nrm.1 hx).2).1⟩)
      by_cases hbig : (turnO n T' ends').length ≤ 2000
      · have HBIG := Aside0.mk hbig
        clear hbig
        go_wp2_with (first
          | (go_at_call 34; (refine (grow_calls (fin ends' N) HF256.out (by omega) n (by omega) (fun X l => X.flatMap fun t => predsOf T' n (pairsTo n N) (t * n + l)) (fun X => (∃ Y, X = nrm Y) ∧ ∀ x ∈ X, x < N) HGF.out (.slice A7 (I (fin ends' N)).length c7) (.func (.func 41) #[] #[.pointer (some ⟨gf, 0, none⟩)]) HMG HS.out).mono ?_; rintro e w40 ⟨O, hO, hcase⟩; rw [HO.out] at hO; have HOE := Aside0.mk hO; clear hO; rcases hcase with ⟨_, vs, vn, rfl, HM4⟩ | ⟨h1, _⟩; rotate_left; (exact absurd HBIG.out (by rw [← HOE.out]; omega)); rw [HR.out] at HM4)))
        refine bodyPost_ret (results_list (rs := [.tmp 2, .tmp 3, .tmp 4]) rfl (by simp) (.tmp (.tmp (.tmp .nil)))) (by rfl) ?_
        rw [HOE.out] at HM4
        refine ⟨HB2.out.trans (HM4.below.mono HB2.out.size), .inl ⟨n, T, (T', ends'), HOK.out, HCAN.out, .inl ⟨HBIG.out, vs, vn, rfl, ?_, ?_⟩⟩⟩
        · exact Kd.R_lower (HM4.rowAt (i := 0) rfl) HB2.out.size
        · exact Kd.R_lower (HM4.rowAt (i := 1) rfl) HB2.out.size
      · have HBIG := Aside0.mk hbig
        clear hbig
        go_wp2_with (first
          | (go_at_call 34; (refine (grow_calls (fin ends' N) HF256.out (by omega) n (by omega) (fun X l => X.flatMap fun t => predsOf T' n (pairsTo n N) (t * n + l)) (fun X => (∃ Y, X = nrm Y) ∧ ∀ x ∈ X, x < N) HGF.out (.slice A7 (I (fin ends' N)).length c7) (.func (.func 41) #[] #[.pointer (some ⟨gf, 0, none⟩)]) HMG HS.out).mono ?_; rintro e w40 ⟨O, hO, hcase⟩; rw [HO.out] at hO; have HOE := Aside0.mk hO; clear hO; rcases hcase with ⟨h1, _⟩ | ⟨_, rfl, HM4⟩; (exact absurd (by rw [← HOE.out]; exact h1) HBIG.out))))
        refine bodyPost_ret (results_list (rs := [.tmp 2, .tmp 3, .tmp 4]) rfl (by simp) (.tmp (.tmp (.tmp .nil)))) (by rfl) ?_
        exact ⟨HB2.out.trans (HM4.below.mono HB2.out.size), .inl ⟨n, T, (T', ends'), HOK.out, HCAN.out, .inr ⟨Nat.lt_of_not_le HBIG.out, rfl⟩⟩⟩
  · have HNO := Aside0.mk hex
    clear hex
    go_enter Try.func21, Try.ntmps21
    go_wp2_with (first
      | ((with_reducible refine gate_dst (N := 1) rfl ?_); refine box_event ?hg (N := 1) ?hd (cs := #[.int .i64 base, .int .i64 tracks, .slice A2 l2.length c2, .slice A3 l3.length c3]) (t := 25) ?hr ?_; (case hd => rfl); (case hg => rfl); (case hr => first | (go_simp; done) | (go_simp; rfl)); intro g1 hg1 w1 hb1 hbel; have HM1 := HM.blk_ hg1 hb1 hbel; clear HM hg1 hb1 hbel)
      | ((with_reducible refine gate_dst (N := 14) rfl ?_); (refine HM1.loadAll 0 rfl 25 (.tmp 1) rfl _ rfl Try.underlying25 rfl (by exact infoA4) rfl ?_))
      | (go_at_call 10; (refine (least_calls base tracks A2 c2 l2 A3 c3 l3 _ (Kd.C_below HC2.out HM1.below) H2.out (Kd.C_below HC3.out HM1.below) H3.out).mono ?_; rintro e w2 ⟨hb, hcase⟩; rcases hcase with ⟨n, T, out, v2, v3, hok, _⟩ | ⟨_, x, hx, rfl⟩; (exact absurd ⟨n, T, hok⟩ HNO.out); have HX := Aside0.mk hx; clear hx; have HM2 := HM1.grow hb; clear HM1 hb; simp only [errW_some]))
      | ((with_reducible refine gate_dst (N := 5) rfl ?_); refine box_event ?hg (N := 5) ?hd (cs := #[.int .i64 0, .int .i64 0, .slice none 0 0, .slice none 0 0]) (t := 25) ?hr ?_; (case hd => rfl); (case hg => rfl); (case hr => first | (go_simp; done) | (go_simp; rfl)); intro g5 hg5 w5 hb5 hbel; have HM5 := HM2.blk_ hg5 hb5 hbel; clear HM2 hg5 hb5 hbel)
      | ((with_reducible refine gate_store (t := 25) (p := 5) rfl ?_); (refine HM5.storeAll 0 rfl rfl 25 (.tmp 5) _ rfl (us := #[.int .i64 0, .int .i64 0, .slice none 0 0, .slice none 0 0]) rfl rfl (one4 rfl rfl rfl rfl) (by exact infoA4) rfl rfl ?_; intro w6 HM6; clear HM5)))
    refine bodyPost_ret (results_list (rs := [.tmp 2, .tmp 3, .tmp 4]) rfl (by simp) (.tmp (.tmp (.tmp .nil)))) (by rfl) ?_
    exact ⟨HM6.below, .inr ⟨HNO.out, x, HX.out, rfl⟩⟩
end Go.Proofs.Ytlffephcbfdknaa.Wk
