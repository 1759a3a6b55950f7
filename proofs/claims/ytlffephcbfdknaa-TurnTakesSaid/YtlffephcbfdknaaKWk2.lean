/- Walk by hand: some.Grow's find. -/
import Derived.Test.YtlffephcbfdknaaKWb
import Derived.Test.YtlffephcbfdknaaKGrw
import Derived.StillTailTactics
import Derived.Deep.DeepCutAuto
import Derived.Deep.CutBlock
import Derived.Deep.QuietTactic
import Derived.BigQuiet
set_option linter.unusedVariables false
set_option linter.unusedSimpArgs false
namespace Go.Proofs.Ytlffephcbfdknaa.Wk
open Go.RowKit Go.Proofs.YtlffephcbfdknaaW.PrintWords Go.Proofs.YtlffephcbfdknaaW.PrintMore Go.Proofs.YtlffephcbfdknaaW.PrintLast Go.Proofs.Sep Go.Proofs.Fil

/-- a set's key -/
def skey (X : List Nat) : Lit := .string (keyB X)
theorem skey_inj {X Y : List Nat} (hX : ∀ x ∈ X, x < 256) (hY : ∀ x ∈ Y, x < 256) (h : skey X = skey Y) : X = Y := by
  unfold skey at h
  injection h with h
  exact keyB_inj hX hY h
/-- the first i bytes of a key have been filled in -/
def fb (X : List Nat) (i : Nat) : List Int := BI (keyB (X.take i)) ++ List.replicate (X.length - i) 0
theorem fb_len (X : List Nat) {i : Nat} (h : i ≤ X.length) : (fb X i).length = X.length := by
  unfold fb; rw [List.length_append, BI_len, List.length_replicate]; simp [keyB]; omega
theorem fb_zero (X : List Nat) : fb X 0 = List.replicate X.length 0 := by simp [fb, keyB, BI]
theorem fb_all (X : List Nat) : fb X X.length = BI (keyB X) := by simp [fb]
theorem fb_set (X : List Nat) {i : Nat} (h : i < X.length) (hx : X.getD i 0 < 256) : (fb X i).set i ((X.getD i 0 : Nat) : Int) = fb X (i + 1) := by
  have h1 : (BI (keyB (X.take i))).length = i := by rw [BI_len]; simp [keyB]; omega
  unfold fb
  rw [List.set_append_right _ _ (by rw [h1]; exact Nat.le_refl i), h1, Nat.sub_self, show X.length - i = (X.length - (i + 1)) + 1 by omega, List.replicate_succ, List.set_cons_zero, take_snoc' h, keyB_snoc, BI_append, List.append_assoc]
  congr 1
  rw [getD_at h] at hx ⊢
  simp [BI]
  omega

set_option maxRecDepth 100000 in
set_option maxHeartbeats 4000000 in
theorem find_calls {b : Nat} {F : Nat → Prop} {w0 W : World} {L : List Res} (l : List Nat) (hl : ∀ x ∈ l, x < 256) (hlen : l.length ≤ 1000000) (P : Tab) (hP : ∀ X ∈ P, ∀ x ∈ X, x < 256) (hPn : P.Nodup) (hPl : P.length ≤ 100000) (v0 vs : Value) (gn gs B : Nat)
    (hM : Mem b F w0 W (row kI 3 v0 (I l) :: blk gs #[vs] 22 :: row kL 26 vs (II P) :: blk gn #[.map (some B)] 74 :: imap Try.prog 9 3 B (P.map skey) :: L)) :
    Calls Try.prog 50 #[v0, .pointer (some ⟨gn, 0, none⟩), .pointer (some ⟨gs, 0, none⟩)] W fun e w' => ∃ vs', e = .returned (.int .i64 ((addAll P [nrm l]).idxOf (nrm l) : Nat)) ∧
      Mem b F w0 w' (blk gs #[vs'] 22 :: row kL 26 vs' (II (addAll P [nrm l])) :: blk gn #[.map (some B)] 74 :: imap Try.prog 9 3 B ((addAll P [nrm l]).map skey) :: L) := by
  have HM := hM
  clear hM
  obtain ⟨As, cs, es, hcs, _⟩ := HM.rowSlice (i := 2) rfl
  subst es
  rw [II_len] at HM hcs
  obtain ⟨X, hX⟩ : ∃ X, X = nrm l := ⟨_, rfl⟩
  have hXl : X.length ≤ 256 := by rw [hX]; exact nrm_len l
  have hX256 : ∀ x ∈ X, x < 256 := by rw [hX]; exact nrm_lt
  have HXX := Aside0.mk hX256
  have HP := Aside0.mk hP
  have HPN := Aside0.mk hPn
  have HX := Aside0.mk hX
  clear hX256 hP hPn hX
  go_enter Try.func50, Try.ntmps50
  go_upto_block 0 with (first
    | (go_at_call 51; refine (sort_calls HM 0 v0 (I l) rfl (by rw [I_len]; omega)).mono ?_; rintro e w1 ⟨rfl, HM1⟩; clear HM)
    | (go_at_call 52; refine (compact_calls HM1 0 v0 _ rfl (by rw [List.length_mergeSort, I_len]; omega)).mono ?_; rintro e w2 ⟨v1, rfl, HM2⟩; clear HM1; rw [compact_sorted l hl, ← HX.out] at HM2; obtain ⟨A1, c1, e1, hc1, _⟩ := HM2.rowSlice (i := 0) rfl; subst e1; rw [I_len] at HM2 hc1 ⊢)
    | ((with_reducible refine gate_dst (N := 16) rfl ?_); (refine HM2.make kU 5 rfl (N := 16) rfl 75 _ _ rfl (X.length : Int) rfl rfl Try.underlying75 (.int .u8 0) 1 infoU rfl (by decide) (by decide) (0 : Int) rfl (by omega) (by rw [Int.toNat_natCast]; omega) ?_; intro v16 w3 HM3; clear HM2; rw [Int.toNat_natCast, ← fb_zero] at HM3)))
  obtain ⟨A16, c16, e16, hc16, _⟩ := HM3.rowSlice (i := 0) rfl
  subst e16
  rw [fb_len X (Nat.zero_le _)] at HM3 hc16 ⊢
  go_cut [19] (fun v19 wc => Mem b F w0 wc (row kU 5 (.slice A16 X.length c16) (fb X X.length) :: row kI 3 (.slice A1 X.length c1) (I X) :: blk gs #[.slice As P.length cs] 22 :: row kL 26 (.slice As P.length cs) (II P) :: blk gn #[.map (some B)] 74 :: imap Try.prog 9 3 B (P.map skey) :: L))
  case first =>
    go_wp2
    go_loopg [6, 7, 19] X.length (fun gk v6 v7 v19 w' => ∃ i : Nat, v19 = .int .i64 i ∧ Aside0 (gk + i = X.length) ∧ Mem b F w0 w' (row kU 5 (.slice A16 X.length c16) (fb X i) :: row kI 3 (.slice A1 X.length c1) (I X) :: blk gs #[.slice As P.length cs] 22 :: row kL 26 (.slice As P.length cs) (II P) :: blk gn #[.map (some B)] 74 :: imap Try.prog 9 3 B (P.map skey) :: L))
    case atStart => exact ⟨0, rfl, ⟨rfl⟩, HM3⟩
    case round =>
      clear HM3
      obtain ⟨i, rfl, HK, HM⟩ := hrel
      have hil : i ≤ X.length := by have := HK.out; omega
      by_cases hlt : i < X.length
      · obtain ⟨ad1, e1, hcell1⟩ := Kd.at_int (by have h1 := (Kd.R_reads' (HM.rowAt (i := 1) rfl)).2.2; exact h1) (i : Int) (by omega) (by rw [I_len]; omega)
        subst e1
        rw [Int.toNat_natCast, rd_I] at hcell1
        have hxi : X.getD i 0 < 256 := HXX.out _ (by rw [getD_at hlt]; exact List.getElem_mem hlt)
        have hfs := fb_set X hlt hxi
        obtain ⟨x, hx⟩ : ∃ x, x = X.getD i 0 := ⟨_, rfl⟩
        rw [← hx] at hcell1 hxi hfs
        have HFS := Aside0.mk hfs
        obtain ⟨g16, cap16, e16, _⟩ := HM.rowForm (i := 0) rfl (by rw [fb_len X hil]; omega)
        injection e16 with e16 e17 e18
        subst e16
        clear hx hfs e17 e18
        have hmod : (x : Int) % 256 = x := by omega
        go_wp2_with (((with_reducible refine gate_store (t := 5) (p := 28) rfl ?_); (refine HM.store1 0 rfl rfl 5 (.tmp 28) _ rfl 5 (fb X i) (x : Int) rfl rfl rfl infoU1 rfl (by rw [fb_len X hil]; exact hlt) ?_; intro w4 HM4; clear HM; rw [HFS.out] at HM4)))
        go_roundg (gk - 1)
        case measure => have := HK.out; omega
        case rel => exact ⟨i + 1, by go_num, ⟨by have := HK.out; omega⟩, HM4⟩
      · obtain rfl : i = X.length := by omega
        go_wp2
        go_meet
        case rel => exact HM
  case rest =>
    clear HM3
    have HM := hcut
    clear hcut
    rw [fb_all] at HM
    have hgn : wc.cell? ⟨gn, 0, none⟩ = some (.map (some B)) := (HM.cell (i := 4) rfl 0).1
    have hgs : wc.cell? ⟨gs, 0, none⟩ = some (.slice As P.length cs) := (HM.cell (i := 2) rfl 0).1
    have hfs := (HM.cell (i := 2) rfl 0).2
    obtain ⟨kb, hkb⟩ : ∃ kb, kb = keyB X := ⟨_, rfl⟩
    have hkl : kb.length = X.length := by rw [hkb]; simp [keyB]
    rw [← hkb] at HM
    have HCk := Aside0.mk (show (Kd.int .u8).C wc A16 X.length (BI kb) by have h1 := (Kd.R_reads' (HM.rowAt (i := 0) rfl)).2.2; rwa [BI_len, hkl] at h1)
    have hkey : Go.keyOf Try.prog 9 (.string (strOfNums (BI kb))) = some (.string kb) := by
      rw [Go.WideMaps.keyOf_string_mk Try.underlying9 (by rw [str_BI_size]; unfold maxLen; omega), str_BI]
    have HKEY := Aside0.mk hkey
    have HKB := Aside0.mk (show skey X = .string kb by rw [hkb]; rfl)
    clear hkey hkb
    by_cases hm : X ∈ P
    · have HJ := Aside0.mk (show (P.map skey)[P.idxOf X]? = some (.string kb) by
        rw [List.getElem?_map, List.getElem?_eq_getElem (List.idxOf_lt_length_of_mem hm), Option.map_some, List.getElem_idxOf, HKB.out])
      have HA := Aside0.mk (show addAll P [nrm l] = P by rw [← HX.out, addAll_cons, addAll_nil, if_pos hm])
      have HMM := Aside0.mk hm
      clear hm
      go_wp2_with (first
        | ((with_reducible refine gate_dst (N := 33) rfl ?_); (refine Mem.str rfl 75 9 5 (.tmp 32) rfl Try.underlying75 Try.underlying5 Try.underlying9 rfl HCk.out ?_))
        | ((with_reducible refine gate_dst (N := 34) rfl ?_); (refine HM.mapHit 5 rfl (.tmp 31) (.tmp 33) 74 9 3 rfl keyS Try.underlying74 Try.underlying3 (zeroI _) B _ rfl rfl _ (.string kb) rfl HKEY.out (P.idxOf X) HJ.out ?_)))
      refine bodyPost_ret (results_single rfl (.tmp .nil)) (by rfl) ⟨_, by rw [HA.out, ← HX.out]; rfl, by rw [HA.out]; exact (HM.drop 0).drop 0⟩
    · have HKM := Aside0.mk (show Lit.string kb ∉ P.map skey by
        intro h1
        obtain ⟨Y, hY, he⟩ := List.mem_map.1 h1
        rw [← HKB.out] at he
        exact hm (skey_inj (HP.out Y hY) HXX.out he ▸ hY))
      have HJ := Aside0.mk (show (P.map skey).length = P.length by rw [List.length_map])
      have HA := Aside0.mk (show addAll P [nrm l] = P ++ [X] by rw [← HX.out, addAll_cons, addAll_nil, if_neg hm])
      have HK := Aside0.mk (show (P ++ [X]).idxOf X = P.length by rw [List.idxOf_append, if_neg hm]; simp)
      have HMM := Aside0.mk hm
      clear hm
      go_wp2_with (first
        | ((with_reducible refine gate_dst (N := 33) rfl ?_); (refine Mem.str rfl 75 9 5 (.tmp 32) rfl Try.underlying75 Try.underlying5 Try.underlying9 rfl HCk.out ?_))
        | ((with_reducible refine gate_dst (N := 34) rfl ?_); (refine HM.mapMiss 5 rfl (.tmp 31) (.tmp 33) 74 9 3 rfl keyS Try.underlying74 Try.underlying3 (zeroI _) B _ rfl rfl _ (.string kb) rfl HKEY.out HKM.out ?_))
        | ((with_reducible refine gate_dst (N := 43) rfl ?_); (refine Mem.str rfl 75 9 5 (.tmp 42) rfl Try.underlying75 Try.underlying5 Try.underlying9 rfl HCk.out ?_))
        | (at_mapUpdate; (refine HM.mapPut 5 rfl rfl (.tmp 41) (.tmp 43) (.tmp 44) 74 9 3 rfl keyS Try.underlying74 Try.underlying3 B _ rfl rfl _ (.string kb) rfl (by rw [HJ.out]; rfl) HKEY.out HKM.out (by rw [HJ.out]; omega) ?_; intro w3 HM3; clear HM; have hgs3 : w3.cell? ⟨gs, 0, none⟩ = some (.slice As P.length cs) := (HM3.cell (i := 2) rfl 0).1; clear hgs hgn hfs))
        | ((with_reducible refine gate_dst (N := 48) rfl ?_); (refine HM3.appendRow 3 1 rfl (.tmp 45) (.tmp 47) 22 26 (.slice none 0 0) 24 rfl Try.underlying22 infoL rfl (by decide) (.slice As P.length cs) (.slice A1 X.length c1) (II P) (I X) rfl rfl rfl rfl (by rw [II_len]; omega) ?_; intro v5 w5 HM5; clear HM3 hgs3; rw [← II_snoc] at HM5; obtain ⟨As1, cs1, es1, hcs1, _⟩ := HM5.rowSlice (i := 0) rfl; subst es1))
        | ((with_reducible refine gate_store (t := 22) (p := 2) rfl ?_); (refine HM5.storeBlk 2 rfl rfl 22 (.tmp 2) _ rfl _ rfl rfl rfl rfl infoNx1 rfl (by show 0 < 1; decide) ?_; intro w6 HM6; clear HM5)))
      refine bodyPost_ret (results_single rfl (.tmp .nil)) (by rfl) ⟨by rw [HA.out, ← HX.out, HK.out]; rfl, .slice As1 (II (P ++ [X])).length cs1, ?_⟩
      rw [HA.out, List.map_append, List.map_singleton, HKB.out]
      have HM7 := HM6.drop 1
      exact HM7.front 1 rfl
end Go.Proofs.Ytlffephcbfdknaa.Wk
