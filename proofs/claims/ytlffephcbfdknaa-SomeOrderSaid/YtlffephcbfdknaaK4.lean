/- Several texts in one: Walk by hand: some.Grow's find. -/
import Derived.Test.YtlffephcbfdknaaKWb
import Derived.Test.YtlffephcbfdknaaKGrw
import Derived.StillTailTactics
import Derived.Deep.DeepCutAuto
import Derived.Deep.CutBlock
import Derived.Deep.QuietTactic
import Derived.BigQuiet
/- Walk by hand: some.Grow's find. -/
set_option linter.unusedVariables false
set_option linter.unusedSimpArgs false
namespace Go.Proofs.Ytlffephcbfdknaa.Wk
open Go.RowKit Go.Proofs.YtlffephcbfdknaaW.PrintWords Go.Proofs.YtlffephcbfdknaaW.PrintMore Go.Proofs.YtlffephcbfdknaaW.PrintLast Go.Proofs.Sep Go.Proofs.Fil

/-- a set's key -/
def skey (X : List Nat) : Lit := .string (keyB X)
theorem skey_inj {X Y : List Nat} (hX : ∀ x ∈ X, x < 256) (hY : ∀ x ∈ Y, x < 256) (h : skey X = skey Y) : X = Y := by
  unfold skey at h
  injection h with h
  exact keyB_inj hX hY h
/-- the first i bytes of a key have been filled in -/
def fb (X : List Nat) (i : Nat) : List Int := BI (keyB (X.take i)) ++ List.replicate (X.length - i) 0
theorem fb_len (X : List Nat) {i : Nat} (h : i ≤ X.length) : (fb X i).length = X.length := by
  unfold fb; rw [List.length_append, BI_len, List.length_replicate]; simp [keyB]; omega
theorem fb_zero (X : List Nat) : fb X 0 = List.replicate X.length 0 := by simp [fb, keyB, BI]
theorem fb_all (X : List Nat) : fb X X.length = BI (keyB X) := by simp [fb]
theorem fb_set (X : List Nat) {i : Nat} (h : i < X.length) (hx : X.getD i 0 < 256) : (fb X i).set i ((X.getD i 0 : Nat) : Int) = fb X (i + 1) := by
  have h1 : (BI (keyB (X.take i))).length = i := by rw [BI_len]; simp [keyB]; omega
  unfold fb
  rw [List.set_append_right _ _ (by rw [h1]; exact Nat.le_refl i), h1, Nat.sub_self, show X.length - i = (X.length - (i + 1)) + 1 by omega, List.replicate_succ, List.set_cons_zero, take_snoc' h, keyB_snoc, BI_append, List.append_assoc]
  congr 1
  rw [getD_at h] at hx ⊢
  simp [BI]
  omega

set_option maxRecDepth 100000 in
set_option maxHeartbeats 4000000 in
theorem find_calls {b : Nat} {F : Nat → Prop} {w0 W : World} {L : List Res} (l : List Nat) (hl : ∀ x ∈ l, x < 256) (hlen : l.length ≤ 1000000) (P : Tab) (hP : ∀ X ∈ P, ∀ x ∈ X, x < 256) (hPn : P.Nodup) (hPl : P.length ≤ 100000) (v0 vs : Value) (gn gs B : Nat)
    (hM : Mem b F w0 W (row kI 3 v0 (I l) :: blk gs #[vs] 22 :: row kL 26 vs (II P) :: blk gn #[.map (some B)] 74 :: imap Try.prog 9 3 B (P.map skey) :: L)) :
    Calls Try.prog 50 #[v0, .pointer (some ⟨gn, 0, none⟩), .pointer (some ⟨gs, 0, none⟩)] W fun e w' => ∃ vs', e = .returned (.int .i64 ((addAll P [nrm l]).idxOf (nrm l) : Nat)) ∧
      Mem b F w0 w' (blk gs #[vs'] 22 :: row kL 26 vs' (II (addAll P [nrm l])) :: blk gn #[.map (some B)] 74 :: imap Try.prog 9 3 B ((addAll P [nrm l]).map skey) :: L) := by
  have HM := hM
  clear hM
  obtain ⟨As, cs, es, hcs, _⟩ := HM.rowSlice (i := 2) rfl
  subst es
  rw [II_len] at HM hcs
  obtain ⟨X, hX⟩ : ∃ X, X = nrm l := ⟨_, rfl⟩
  have hXl : X.length ≤ 256 := by rw [hX]; exact nrm_len l
  have hX256 : ∀ x ∈ X, x < 256 := by rw [hX]; exact nrm_lt
  have HXX := Aside0.mk hX256
  have HP := Aside0.mk hP
  have HPN := Aside0.mk hPn
  have HX := Aside0.mk hX
  clear hX256 hP hPn hX
  go_enter Try.func50, Try.ntmps50
  go_upto_block 0 with (first
    | (go_at_call 51; refine (sort_calls HM 0 v0 (I l) rfl (by rw [I_len]; omega)).mono ?_; rintro e w1 ⟨rfl, HM1⟩; clear HM)
    | (go_at_call 52; refine (compact_calls HM1 0 v0 _ rfl (by rw [List.length_mergeSort, I_len]; omega)).mono ?_; rintro e w2 ⟨v1, rfl, HM2⟩; clear HM1; rw [compact_sorted l hl, ← HX.out] at HM2; obtain ⟨A1, c1, e1, hc1, _⟩ := HM2.rowSlice (i := 0) rfl; subst e1; rw [I_len] at HM2 hc1 ⊢)
    | ((with_reducible refine gate_dst (N := 16) rfl ?_); (refine HM2.make kU 5 rfl (N := 16) rfl 75 _ _ rfl (X.length : Int) rfl rfl Try.underlying75 (.int .u8 0) 1 infoU rfl (by decide) (by decide) (0 : Int) rfl (by omega) (by rw [Int.toNat_natCast]; omega) ?_; intro v16 w3 HM3; clear HM2; rw [Int.toNat_natCast, ← fb_zero] at HM3)))
  obtain ⟨A16, c16, e16, hc16, _⟩ := HM3.rowSlice (i := 0) rfl
  subst e16
  rw [fb_len X (Nat.zero_le _)] at HM3 hc16 ⊢
  go_cut [19] (fun v19 wc => Mem b F w0 wc (row kU 5 (.slice A16 X.length c16) (fb X X.length) :: row kI 3 (.slice A1 X.length c1) (I X) :: blk gs #[.slice As P.length cs] 22 :: row kL 26 (.slice As P.length cs) (II P) :: blk gn #[.map (some B)] 74 :: imap Try.prog 9 3 B (P.map skey) :: L))
  case first =>
    go_wp2
    go_loopg [6, 7, 19] X.length (fun gk v6 v7 v19 w' => ∃ i : Nat, v19 = .int .i64 i ∧ Aside0 (gk + i = X.length) ∧ Mem b F w0 w' (row kU 5 (.slice A16 X.length c16) (fb X i) :: row kI 3 (.slice A1 X.length c1) (I X) :: blk gs #[.slice As P.length cs] 22 :: row kL 26 (.slice As P.length cs) (II P) :: blk gn #[.map (some B)] 74 :: imap Try.prog 9 3 B (P.map skey) :: L))
    case atStart => exact ⟨0, rfl, ⟨rfl⟩, HM3⟩
    case round =>
      clear HM3
      obtain ⟨i, rfl, HK, HM⟩ := hrel
      have hil : i ≤ X.length := by have := HK.out; omega
      by_cases hlt : i < X.length
      · obtain ⟨ad1, e1, hcell1⟩ := Kd.at_int (by have h1 := (Kd.R_reads' (HM.rowAt (i := 1) rfl)).2.2; exact h1) (i : Int) (by omega) (by rw [I_len]; omega)
        subst e1
        rw [Int.toNat_natCast, rd_I] at hcell1
        have hxi : X.getD i 0 < 256 := HXX.out _ (by rw [getD_at hlt]; exact List.getElem_mem hlt)
        have hfs := fb_set X hlt hxi
        obtain ⟨x, hx⟩ : ∃ x, x = X.getD i 0 := ⟨_, rfl⟩
        rw [← hx] at hcell1 hxi hfs
        have HFS := Aside0.mk hfs
        obtain ⟨g16, cap16, e16, _⟩ := HM.rowForm (i := 0) rfl (by rw [fb_len X hil]; omega)
        injection e16 with e16 e17 e18
        subst e16
        clear hx hfs e17 e18
        have hmod : (x : Int) % 256 = x := by omega
        go_wp2_with (((with_reducible refine gate_store (t := 5) (p := 28) rfl ?_); (refine HM.store1 0 rfl rfl 5 (.tmp 28) _ rfl 5 (fb X i) (x : Int) rfl rfl rfl infoU1 rfl (by rw [fb_len X hil]; exact hlt) ?_; intro w4 HM4; clear HM; rw [HFS.out] at HM4)))
        go_roundg (gk - 1)
        case measure => have := HK.out; omega
        case rel => exact ⟨i + 1, by go_num, ⟨by have := HK.out; omega⟩, HM4⟩
      · obtain rfl : i = X.length := by omega
        go_wp2
        go_meet
        case rel => exact HM
  case rest =>
    clear HM3
    have HM := hcut
    clear hcut
    rw [fb_all] at HM
    have hgn : wc.cell? ⟨gn, 0, none⟩ = some (.map (some B)) := (HM.cell (i := 4) rfl 0).1
    have hgs : wc.cell? ⟨gs, 0, none⟩ = some (.slice As P.length cs) := (HM.cell (i := 2) rfl 0).1
    have hfs := (HM.cell (i := 2) rfl 0).2
    obtain ⟨kb, hkb⟩ : ∃ kb, kb = keyB X := ⟨_, rfl⟩
    have hkl : kb.length = X.length := by rw [hkb]; simp [keyB]
    rw [← hkb] at HM
    have HCk := Aside0.mk (show (Kd.int .u8).C wc A16 X.length (BI kb) by have h1 := (Kd.R_reads' (HM.rowAt (i := 0) rfl)).2.2; rwa [BI_len, hkl] at h1)
    have hkey : Go.keyOf Try.prog 9 (.string (strOfNums (BI kb))) = some (.string kb) := by
      rw [Go.WideMaps.keyOf_string_mk Try.underlying9 (by rw [str_BI_size]; unfold maxLen; omega), str_BI]
    have HKEY := Aside0.mk hkey
    have HKB := Aside0.mk (show skey X = .string kb by rw [hkb]; rfl)
    clear hkey hkb
    by_cases hm : X ∈ P
    · have HJ := Aside0.mk (show (P.map skey)[P.idxOf X]? = some (.string kb) by
        rw [List.getElem?_map, List.getElem?_eq_getElem (List.idxOf_lt_length_of_mem hm), Option.map_some, List.getElem_idxOf, HKB.out])
      have HA := Aside0.mk (show addAll P [nrm l] = P by rw [← HX.out, addAll_cons, addAll_nil, if_pos hm])
      have HMM := Aside0.mk hm
      clear hm
      go_wp2_with (first
        | ((with_reducible refine gate_dst (N := 33) rfl ?_); (refine Mem.str rfl 75 9 5 (.tmp 32) rfl Try.underlying75 Try.underlying5 Try.underlying9 rfl HCk.out ?_))
        | ((with_reducible refine gate_dst (N := 34) rfl ?_); (refine HM.mapHit 5 rfl (.tmp 31) (.tmp 33) 74 9 3 rfl keyS Try.underlying74 Try.underlying3 (zeroI _) B _ rfl rfl _ (.string kb) rfl HKEY.out (P.idxOf X) HJ.out ?_)))
      refine bodyPost_ret (results_single rfl (.tmp .nil)) (by rfl) ⟨_, by rw [HA.out, ← HX.out]; rfl, by rw [HA.out]; exact (HM.drop 0).drop 0⟩
    · have HKM := Aside0.mk (show Lit.string kb ∉ P.map skey by
        intro h1
        obtain ⟨Y, hY, he⟩ := List.mem_map.1 h1
        rw [← HKB.out] at he
        exact hm (skey_inj (HP.out Y hY) HXX.out he ▸ hY))
      have HJ := Aside0.mk (show (P.map skey).length = P.length by rw [List.length_map])
      have HA := Aside0.mk (show addAll P [nrm l] = P ++ [X] by rw [← HX.out, addAll_cons, addAll_nil, if_neg hm])
      have HK := Aside0.mk (show (P ++ [X]).idxOf X = P.length by rw [List.idxOf_append, if_neg hm]; simp)
      have HMM := Aside0.mk hm
      clear hm
      go_wp2_with (first
        | ((with_reducible refine gate_dst (N := 33) rfl ?_); (refine Mem.str rfl 75 9 5 (.tmp 32) rfl Try.underlying75 Try.underlying5 Try.underlying9 rfl HCk.out ?_))
        | ((with_reducible refine gate_dst (N := 34) rfl ?_); (refine HM.mapMiss 5 rfl (.tmp 31) (.tmp 33) 74 9 3 rfl keyS Try.underlying74 Try.underlying3 (zeroI _) B _ rfl rfl _ (.string kb) rfl HKEY.out HKM.out ?_))
        | ((with_reducible refine gate_dst (N := 43) rfl ?_); (refine Mem.str rfl 75 9 5 (.tmp 42) rfl Try.underlying75 Try.underlying5 Try.underlying9 rfl HCk.out ?_))
        | (at_mapUpdate; (refine HM.mapPut 5 rfl rfl (.tmp 41) (.tmp 43) (.tmp 44) 74 9 3 rfl keyS Try.underlying74 Try.underlying3 B _ rfl rfl _ (.string kb) rfl (by rw [HJ.out]; rfl) HKEY.out HKM.out (by rw [HJ.out]; omega) ?_; intro w3 HM3; clear HM; have hgs3 : w3.cell? ⟨gs, 0, none⟩ = some (.slice As P.length cs) := (HM3.cell (i := 2) rfl 0).1; clear hgs hgn hfs))
        | ((with_reducible refine gate_dst (N := 48) rfl ?_); (refine HM3.appendRow 3 1 rfl (.tmp 45) (.tmp 47) 22 26 (.slice none 0 0) 24 rfl Try.underlying22 infoL rfl (by decide) (.slice As P.length cs) (.slice A1 X.length c1) (II P) (I X) rfl rfl rfl rfl (by rw [II_len]; omega) ?_; intro v5 w5 HM5; clear HM3 hgs3; rw [← II_snoc] at HM5; obtain ⟨As1, cs1, es1, hcs1, _⟩ := HM5.rowSlice (i := 0) rfl; subst es1))
        | ((with_reducible refine gate_store (t := 22) (p := 2) rfl ?_); (refine HM5.storeBlk 2 rfl rfl 22 (.tmp 2) _ rfl _ rfl rfl rfl rfl infoNx1 rfl (by show 0 < 1; decide) ?_; intro w6 HM6; clear HM5)))
      refine bodyPost_ret (results_single rfl (.tmp .nil)) (by rfl) ⟨by rw [HA.out, ← HX.out, HK.out]; rfl, .slice As1 (II (P ++ [X])).length cs1, ?_⟩
      rw [HA.out, List.map_append, List.map_singleton, HKB.out]
      have HM7 := HM6.drop 1
      exact HM7.front 1 rfl
end Go.Proofs.Ytlffephcbfdknaa.Wk

/- Walk by hand: some.Grow. -/
set_option linter.unusedVariables false
set_option linter.unusedSimpArgs false
namespace Go.Proofs.Fil
/-- where something stands in a list -/
def ix {α : Type} [DecidableEq α] (P : List α) (y : α) : Nat := P.idxOf y
theorem ix_eq {α : Type} [DecidableEq α] [BEq α] [LawfulBEq α] (P : List α) (y : α) : P.idxOf y = ix P y := by
  unfold ix List.idxOf
  congr 1
  funext a
  rw [Bool.eq_iff_iff]
  simp
theorem map_idx_prefix {α : Type} [DecidableEq α] {P Q : List α} (hp : P <+: Q) {xs : List α} (h : ∀ x ∈ xs, x ∈ P) : xs.map (ix P) = xs.map (ix Q) :=
  List.map_congr_left (fun x hx => (idxOf_of_prefix hp (h x hx)).symm)
section
variable {α : Type} [DecidableEq α] (n : Nat) (d : α → Nat → α)
omit [DecidableEq α] in
theorem succs_len (x : α) : (succs n d x).length = n := by simp [succs]
omit [DecidableEq α] in
theorem succs_take {x : α} {l : Nat} (h : l < n) : (succs n d x).take (l + 1) = (succs n d x).take l ++ [d x l] := by
  rw [take_snoc' (by rw [succs_len]; exact h)]
  congr 1
  simp [succs]
/-- the rows so far, of i states -/
def rowsTo (P : List α) (i : Nat) : Tab := (P.take i).map fun x => (succs n d x).map (ix P)
theorem rowsTo_all (e : α → Bool) (P : List α) : rowsTo n d P P.length = (explored n d e P).1 := by simp [rowsTo, explored]; intros; rfl
theorem rowsTo_succ {a : α} {i : Nat} {x : α} (h : (bfsI (succs n d) a i)[i]? = some x) : rowsTo n d (bfsI (succs n d) a (i + 1)) (i + 1) =
    rowsTo n d (bfsI (succs n d) a i) i ++ [(succs n d x).map (ix (bfsI (succs n d) a (i + 1)))] := by
  obtain ⟨hlt, hx⟩ := List.getElem?_eq_some_iff.1 h
  have hp := bfsI_step_prefix (succs n d) a i
  have h1 : (bfsI (succs n d) a (i + 1)).take (i + 1) = (bfsI (succs n d) a i).take i ++ [x] := by
    obtain ⟨t, ht⟩ := hp
    rw [← ht, List.take_append_of_le_length (by omega), take_snoc' hlt, hx]
  unfold rowsTo
  rw [h1, List.map_append, List.map_singleton]
  congr 1
  refine List.map_congr_left (fun y hy => ?_)
  obtain ⟨j, hj, rfl⟩ := List.mem_iff_getElem.1 hy
  rw [List.length_take] at hj
  have hj' : j < i := by omega
  refine (map_idx_prefix hp (fun z hz => ?_)).symm
  rw [List.getElem_take] at hz
  exact bfsI_closed (succs n d) a hj' (List.getElem?_eq_getElem _) z hz
end
end Go.Proofs.Fil
namespace Go.Proofs.Ytlffephcbfdknaa.Wk
open Go.RowKit Go.Proofs.YtlffephcbfdknaaW.PrintWords Go.Proofs.YtlffephcbfdknaaW.PrintMore Go.Proofs.YtlffephcbfdknaaW.PrintLast Go.Proofs.Sep Go.Proofs.Fil

/-- What a step function answers, of these sets, in memory that holds L. -/
structure Steps (b : Nat) (F : Nat → Prop) (w0 : World) (L : List Res) (v : Value) (n : Nat) (f : List Nat → Nat → List Nat) (G : List Nat → Prop) : Prop where
  out : ∃ (fi : Nat) (fn : Func) (cap : Array Value), v = .func (.func fi) #[] cap ∧ Try.prog.funcs[fi]? = some fn ∧ (fn.name == "runtime.NumGoroutine") = false ∧ fn.body.isSome = true ∧
    ∀ (X : List Nat), G X → ∀ l, l < n → ∀ (w : World) (Lx : List Res) (A : Option Addr) (c : Nat), Mem b F w0 w (Lx ++ L) → kI.C w A (I X).length (I X) → (I X).length ≤ c →
      Calls Try.prog fi (#[.slice A (I X).length c, .int .i64 (l : Int)] ++ cap) w fun e w' => ∃ v', e = .returned v' ∧ Mem b F w0 w' (row kI 3 v' (I (f X l)) :: (Lx ++ L))
  g256 : ∀ X, G X → ∀ x ∈ X, x < 256
  f256 : ∀ X, G X → ∀ l, l < n → ∀ x ∈ f X l, x < 256
  flen : ∀ X, G X → ∀ l, l < n → (f X l).length ≤ 1000000
  step : ∀ X, G X → ∀ l, l < n → G (nrm (f X l))

theorem infoM1 : (Try.prog.info? 74).map (·.size) = some 1 := by kernel_rfl
theorem run_loadVar_slice (w : World) (a : Addr) (x : Value) (h : w.cell? a = some x) : (loadVar 22 a).run Try.prog w = .ok x w := by
  have ha := Try.isAgg22 w
  simp [loadVar, ha]
  rw [h]
theorem grow_results {fn : Func} {tmps : Array Value} {w : World} (h : fn.results = #[.cell 6 22, .tmp 7, .tmp 8]) (gs : Nat) (x : Value) (h6 : tmps.getD 6 undef = .pointer (some ⟨gs, 0, none⟩)) (hc : w.cell? ⟨gs, 0, none⟩ = some x) :
    (results fn tmps).run Try.prog w = .ok (.tuple #[x, tmps.getD 7 undef, tmps.getD 8 undef]) w := by
  have h1 := run_loadVar_slice w ⟨gs, 0, none⟩ x hc
  have h2 : tmps[6]?.getD undef = .pointer (some ⟨gs, 0, none⟩) := by rw [← h6]; simp
  simp [results, h, h2, asAddr, h1]
set_option maxRecDepth 100000 in
set_option maxHeartbeats 4000000 in
theorem grow_calls {b : Nat} {F : Nat → Prop} {w0 W : World} {L : List Res} (first : List Nat) (hfirst : ∀ x ∈ first, x < 256) (hflen : first.length ≤ 1000000) (n : Nat) (hn : n ≤ 1000) (f : List Nat → Nat → List Nat) (G : List Nat → Prop) (hG : G (nrm first)) (v0 vf : Value)
    (hM : Mem b F w0 W (row kI 3 v0 (I first) :: L)) (hS : Steps b F w0 L vf n f G) :
    Calls Try.prog 34 #[v0, .int .i64 (n : Int), vf] W fun e w' => ∃ O : List (List Nat), O = bfsI (succs n fun X l => nrm (f X l)) (nrm first) 2001 ∧
      ((O.length ≤ 2000 ∧ ∃ vs vn, e = .returned (.tuple #[vs, vn, .bool true]) ∧ Mem b F w0 w' (row kL 26 vs (II O) :: row kL 26 vn (II (rowsTo n (fun X l => nrm (f X l)) O O.length)) :: L)) ∨
       (2000 < O.length ∧ e = .returned (.tuple #[.slice none 0 0, .slice none 0 0, .bool false]) ∧ Mem b F w0 w' L)) := by
  have HM := hM
  clear hM
  obtain ⟨fi, fn, cap, rfl, hf1, hf2, hf3, hf4⟩ := hS.out
  have HS := Aside0.mk hS
  have HF1 := Aside0.mk hf1
  have HF2 := Aside0.mk hf2
  have HF3 := Aside0.mk hf3
  have HF4 := Aside0.mk hf4
  clear hS hf1 hf2 hf3 hf4
  obtain ⟨d, hd⟩ : ∃ d, d = fun X l => nrm (f X l) := ⟨_, rfl⟩
  rw [← hd]
  obtain ⟨X0, hX0⟩ : ∃ X0, X0 = nrm first := ⟨_, rfl⟩
  rw [← hX0] at hG ⊢
  have HG := Aside0.mk hG
  have HD := Aside0.mk hd
  have HX0 := Aside0.mk hX0
  have HBG := Aside0.mk (show ∀ i, ∀ x ∈ bfsI (succs n d) X0 i, G x from fun i => bfsI_inv (succs n d) X0 (P := G) hG (fun x hx t ht => by
    obtain ⟨l, hl, rfl⟩ := List.mem_map.1 ht
    rw [HD.out]
    exact HS.out.step x hx l (List.mem_range.1 hl)) i)
  clear hd hX0 hG
  go_enter Try.func34, Try.ntmps34
  go_upto_block 0 with (first
    | ((with_reducible refine gate_dst (N := 6) rfl ?_); refine box_event ?hg (N := 6) ?hd (cs := #[.slice none 0 0]) (t := 22) ?hr ?_; (case hd => rfl); (case hg => rfl); (case hr => first | (go_simp; done) | (go_simp; rfl)); intro gs hgs w1 hbs hbel; have HM1 := HM.blk_ hgs hbs hbel; clear HM hgs hbs hbel)
    | ((with_reducible refine gate_dst (N := 14) rfl ?_); (refine HM1.mapMake rfl 74 9 3 rfl ?_; intro B w2 HM2; clear HM1))
    | ((with_reducible refine gate_dst (N := 9) rfl ?_); refine box_event ?hg (N := 9) ?hd (cs := #[.map none]) (t := 74) ?hr ?_; (case hd => rfl); (case hg => rfl); (case hr => first | (go_simp; done) | (go_simp; rfl)); intro gn hgn w3 hbn hbel; have HM3 := HM2.blk_ hgn hbn hbel; clear HM2 hgn hbn hbel)
    | ((with_reducible refine gate_store (t := 74) (p := 9) rfl ?_); (refine HM3.storeBlk 0 rfl rfl 74 (.tmp 9) _ rfl _ rfl rfl rfl rfl infoM1 rfl (by show 0 < 1; decide) ?_; intro w4 HM4; clear HM3; replace HM4 := (((((HM4.nil kL 26).front 2 rfl).front 2 rfl).front 2 rfl).front 3 rfl).front 4 rfl))
    | ((with_reducible refine gate_dst (N := 18) rfl ?_); (refine goesV_ (some 18) rfl rfl Try.func50 (by kernel_rfl) rfl (x := .tmp 16) (cap := #[.pointer (some ⟨gn, 0, none⟩), .pointer (some ⟨gs, 0, none⟩)]) rfl rfl #[v0, .pointer (some ⟨gn, 0, none⟩), .pointer (some ⟨gs, 0, none⟩)] (by (try simp only [List.map_toArray, List.map_cons, List.map_nil]); first | done | rfl) ?_; refine (find_calls first hfirst hflen [] (by simp) List.nodup_nil (by simp) v0 (.slice none 0 0) gn gs B HM4).mono ?_; rintro e w5 ⟨vs, rfl, HM5⟩; refine ⟨_, rfl, ?_⟩; clear HM4)))
  rw [show addAll [] [nrm first] = bfsI (succs n d) X0 0 by rw [← HX0.out]; rfl] at HM5
  go_wp2
  go_loopg [7, 11] 2000 (fun gk v7 v11 w' => ∃ (i : Nat) (vs : Value), v11 = .int .i64 i ∧ Aside0 (gk + i = 2000) ∧ Mem b F w0 w' (row kL 26 v7 (II (rowsTo n d (bfsI (succs n d) X0 i) i)) :: blk gs #[vs] 22 :: row kL 26 vs (II (bfsI (succs n d) X0 i)) :: blk gn #[.map (some B)] 74 :: imap Try.prog 9 3 B ((bfsI (succs n d) X0 i).map skey) :: L))
  case atStart => exact ⟨0, vs, rfl, ⟨rfl⟩, HM5.nil kL 26⟩
  case round =>
    clear HM5
    obtain ⟨g1, rfl⟩ : ∃ x : Nat, x = gk := ⟨_, rfl⟩
    obtain ⟨w10, rfl⟩ : ∃ x : World, x = wr := ⟨_, rfl⟩
    obtain ⟨i, vs, rfl, HK, HM⟩ := hrel
    have hi : i ≤ 2000 := by have := HK.out; omega
    obtain ⟨P, hP⟩ : ∃ P, P = bfsI (succs n d) X0 i := ⟨_, rfl⟩
    rw [← hP] at HM
    obtain ⟨As, cs, es, hcs, _⟩ := HM.rowSlice (i := 2) rfl
    subst es
    rw [II_len] at HM hcs
    have hgs : w10.cell? ⟨gs, 0, none⟩ = some (.slice As P.length cs) := (HM.cell (i := 1) rfl 0).1
    have hfs := (HM.cell (i := 1) rfl 0).2
    have HPP := Aside0.mk hP
    clear hP
    by_cases hlt : i < P.length
    · by_cases hbig : 2000 < P.length
      · go_wp2_with (((with_reducible refine gate_store (t := 22) (p := 6) rfl ?_); (refine HM.storeBlk 1 rfl rfl 22 (.tmp 6) _ rfl (.slice none 0 0) rfl rfl rfl rfl infoNx1 rfl (by show 0 < 1; decide) ?_; intro w6 HM6; clear HM hgs hfs)))
        refine bodyPost_ret (grow_results rfl gs _ rfl (HM6.cell (i := 1) rfl 0).1) (by rfl) ⟨_, rfl, .inr ⟨?_, rfl, ?_⟩⟩
        · have h1 := (bfsI_prefix (succs n d) X0 (show i ≤ 2001 by omega)).length_le
          rw [← HPP.out] at h1
          omega
        · exact ((((HM6.drop 0).drop 0).drop 0).drop 0).drop 0
      · obtain ⟨X, hX⟩ : ∃ X, P[i]? = some X := ⟨_, List.getElem?_eq_getElem hlt⟩
        have hXg : P.getD i [] = X := by rw [List.getD_eq_getElem?_getD, hX]; rfl
        have hbs := bfsI_succ_some (succs n d) X0 (i := i) (x := X) (by rw [← HPP.out]; exact hX)
        rw [← HPP.out] at hbs
        have hXG : G X := HBG.out i X (by rw [← HPP.out]; exact List.mem_of_getElem? hX)
        have hrow := rowsTo_succ n d (a := X0) (i := i) (x := X) (by rw [← HPP.out]; exact hX)
        rw [hbs, ← HPP.out] at hrow
        obtain ⟨T, hT⟩ : ∃ T, T = rowsTo n d P i := ⟨_, rfl⟩
        have hTl : T.length ≤ 2000 := by rw [hT]; unfold rowsTo; rw [List.length_map, List.length_take]; omega
        rw [← hT] at HM hrow
        have HX := Aside0.mk hX
        have HXG := Aside0.mk hXg
        have HBS := Aside0.mk hbs
        have HGX := Aside0.mk hXG
        have HROW := Aside0.mk hrow
        clear hX hXg hbs hXG hrow hT
        go_wp2
        go_loopg [12, 29] n (fun gk v12 v29 w' => ∃ (l : Nat) (vs : Value), v29 = .int .i64 l ∧ Aside0 (gk + l = n) ∧ Mem b F w0 w' (blk gs #[vs] 22 :: row kL 26 vs (II (addAll P ((succs n d X).take l))) :: blk gn #[.map (some B)] 74 :: imap Try.prog 9 3 B ((addAll P ((succs n d X).take l)).map skey) :: row kI 3 v12 (I (((succs n d X).take l).map (ix (addAll P ((succs n d X).take l))))) :: row kL 26 u7 (II T) :: L))
        case atStart => exact ⟨0, _, rfl, ⟨by omega⟩, ((((HM.nil kI 3).front 5 rfl).front 5 rfl).front 5 rfl).front 5 rfl⟩
        case round =>
          clear HM hgs hfs
          obtain ⟨g2, rfl⟩ : ∃ x : Nat, x = gk := ⟨_, rfl⟩
          obtain ⟨w20, rfl⟩ : ∃ x : World, x = wr := ⟨_, rfl⟩
          obtain ⟨l, vs, rfl, HKl, HM⟩ := hrel
          have hll : l ≤ n := by have := HKl.out; omega
          by_cases hl : l < n
          · have hst := succs_take n d (x := X) hl
            obtain ⟨xs, hxs⟩ : ∃ xs, xs = (succs n d X).take l := ⟨_, rfl⟩
            rw [← hxs] at HM hst
            have hxl : xs.length ≤ n := by rw [hxs, List.length_take]; omega
            obtain ⟨Q, hQ⟩ : ∃ Q, Q = addAll P xs := ⟨_, rfl⟩
            rw [← hQ] at HM
            have hQl : Q.length ≤ 3000 := by have := addAll_length_le' xs P; rw [← hQ] at this; omega
            have hQg : ∀ Y ∈ Q, G Y := by
              intro Y hY
              rw [hQ, mem_addAll] at hY
              rcases hY with hY | hY
              · exact HBG.out i Y (by rw [← HPP.out]; exact hY)
              · rw [hxs] at hY
                obtain ⟨l', hl', rfl⟩ := List.mem_map.1 (List.mem_of_mem_take hY)
                rw [HD.out]
                exact HS.out.step X HGX.out l' (List.mem_range.1 hl')
            have hQ256 : ∀ Y ∈ Q, ∀ x ∈ Y, x < 256 := fun Y hY => HS.out.g256 Y (hQg Y hY)
            have hQn : Q.Nodup := by rw [hQ]; exact addAll_nodup (by rw [HPP.out]; exact bfsI_nodup _ _ _)
            have hQ1 : addAll P (xs ++ [d X l]) = addAll Q [nrm (f X l)] := by rw [addAll_append, ← hQ, HD.out]
            have hr1 : (xs ++ [d X l]).map (ix (addAll P (xs ++ [d X l]))) = xs.map (ix Q) ++ [ix (addAll Q [nrm (f X l)]) (nrm (f X l))] := by
              rw [List.map_append, List.map_singleton, hQ1, show d X l = nrm (f X l) by rw [HD.out]]
              congr 1
              exact (map_idx_prefix addAll_prefix (fun x hx => by rw [hQ, mem_addAll]; exact .inr hx)).symm
            rw [← hQ1] at hr1
            obtain ⟨rl, hrl⟩ : ∃ rl, rl = xs.map (ix Q) := ⟨_, rfl⟩
            rw [← hrl] at HM hr1
            have hrll : rl.length ≤ 1000 := by rw [hrl, List.length_map]; omega
            have hPQ : P <+: Q := by rw [hQ]; exact addAll_prefix
            obtain ⟨hlt2, hX2⟩ := List.getElem?_eq_some_iff.1 (prefix_getElem? hPQ HX.out)
            obtain ⟨As, cs, es, hcs, hCs⟩ := HM.rowSlice (i := 1) rfl
            obtain ⟨ad, A1, c1, eA, hcell, hl1, hC1⟩ := row_at hCs (i := i) hlt2
            rw [getD_at hlt2, hX2] at hcell hl1 hC1
            subst eA
            subst es
            rw [II_len] at HM hcs
            have hgs : w20.cell? ⟨gs, 0, none⟩ = some (.slice (some ad) Q.length cs) := (HM.cell (i := 0) rfl 0).1
            have HST := Aside0.mk hst
            have HQ1 := Aside0.mk hQ1
            have HR1 := Aside0.mk hr1
            have HQN := Aside0.mk hQn
            have HQ256 := Aside0.mk hQ256
            have HC1 := Aside0.mk hC1
            have hil : i < Q.length := hlt2
            clear hst hQ1 hr1 hQn hQ256 hC1 hCs hxs hQ hQg hPQ hX2 hrl
            go_wp2_with (first
              | ((with_reducible refine gate_dst (N := 40) rfl ?_); (refine goesV_ (some 40) rfl rfl HF1.out HF2.out HF3.out (x := .tmp 34) (cap := cap) rfl rfl (#[.slice A1 (I X).length c1, .int .i64 (l : Int)] ++ cap) (by (try simp only [List.map_toArray, List.map_cons, List.map_nil]); first | done | rfl) ?_; refine (HF4.out X HGX.out l hl w20 [blk gs #[.slice (some ad) Q.length cs] 22, row kL 26 (.slice (some ad) Q.length cs) (II Q), blk gn #[.map (some B)] 74, imap Try.prog 9 3 B (Q.map skey), row kI 3 u12 (I rl), row kL 26 u7 (II T)] A1 c1 HM HC1.out hl1).mono ?_; rintro e w21 ⟨v40, rfl, HM1⟩; refine ⟨_, rfl, ?_⟩; clear HM hgs hcell))
              | ((with_reducible refine gate_dst (N := 41) rfl ?_); (refine goesV_ (some 41) rfl rfl Try.func50 (by kernel_rfl) rfl (x := .tmp 33) (cap := #[.pointer (some ⟨gn, 0, none⟩), .pointer (some ⟨gs, 0, none⟩)]) rfl rfl #[v40, .pointer (some ⟨gn, 0, none⟩), .pointer (some ⟨gs, 0, none⟩)] (by (try simp only [List.map_toArray, List.map_cons, List.map_nil]); first | done | rfl) ?_; refine (find_calls (f X l) (HS.out.f256 X HGX.out l hl) (HS.out.flen X HGX.out l hl) Q HQ256.out HQN.out (by omega) v40 (.slice (some ad) Q.length cs) gn gs B HM1).mono ?_; rintro e w22 ⟨vs2, rfl, HM2⟩; rw [ix_eq]; refine ⟨_, rfl, ?_⟩; clear HM1))
              | ((with_reducible refine gate_dst (N := 43) rfl ?_); (refine HM2.append1 4 rfl (.tmp 32) (.tmp 42) 26 3 (.int .i64 0) 8 rfl Try.underlying26 infoI rfl (by decide) _ (I rl) ((ix (addAll Q [nrm (f X l)]) (nrm (f X l)) : Nat) : Int) rfl rfl rfl (by rw [I_len]; omega) ?_; intro v43 w23 HM3; clear HM2; rw [← I_snoc] at HM3)))
            go_roundg (g2 - 1)
            case measure => have := HKl.out; omega
            case rel => exact ⟨l + 1, vs2, by go_num, ⟨by have := HKl.out; omega⟩, by rw [HST.out, HR1.out, HQ1.out]; exact HM3⟩
          · obtain rfl : l = n := by omega
            rw [show (succs l d X).take l = succs l d X from List.take_of_length_le (by rw [succs_len]; exact Nat.le_refl _)] at HM
            obtain ⟨rw', hrw⟩ : ∃ rw', rw' = (succs l d X).map (ix (addAll P (succs l d X))) := ⟨_, rfl⟩
            rw [← hrw] at HM
            have HROW2 := Aside0.mk (show rowsTo l d (addAll P (succs l d X)) (i + 1) = T ++ [rw'] by rw [HROW.out, hrw])
            clear hrw
            obtain ⟨A12, c12, e12, _, _⟩ := HM.rowSlice (i := 4) rfl
            subst e12
            go_wp2_with (first
              | ((with_reducible refine gate_dst (N := 48) rfl ?_); (refine HM.appendRow 5 4 rfl (.tmp 45) (.tmp 47) 22 26 (.slice none 0 0) 24 rfl Try.underlying22 infoL rfl (by decide) u7 (.slice A12 (I rw').length c12) (II T) (I rw') rfl rfl rfl rfl (by rw [II_len]; omega) ?_; intro v48 w23 HM5; clear HM; rw [← II_snoc] at HM5)))
            go_roundg (g1 - 1)
            case measure => have := HK.out; omega
            case rel => exact ⟨i + 1, vs, by go_num, ⟨by have := HK.out; omega⟩, by rw [HBS.out, HROW2.out]; exact HM5⟩
    · go_wp2_with (((with_reducible refine gate_store (t := 22) (p := 6) rfl ?_); (refine HM.storeBlk 1 rfl rfl 22 (.tmp 6) _ rfl (.slice As P.length cs) rfl rfl rfl rfl infoNx1 rfl (by show 0 < 1; decide) ?_; intro w6 HM6; clear HM hgs hfs)))
      have hO : bfsI (succs n d) X0 2001 = P := by
        have h1 := bfsI_stop (succs n d) X0 (i := i) (by rw [← HPP.out]; omega) (j := 2001) (by omega)
        rw [h1, HPP.out]
      rw [hO]
      have hle : decide ((P.length : Int) ≤ 2000) = true := decide_eq_true (by omega)
      refine bodyPost_ret (grow_results rfl gs _ rfl (HM6.cell (i := 1) rfl 0).1) (by rfl) ?_
      refine ⟨P, rfl, .inl ⟨by omega, .slice As P.length cs, u7, by (show Ending.returned (.tuple #[.slice As P.length cs, u7, .bool (decide ((P.length : Int) ≤ 2000))]) = _; rw [hle]), ?_⟩⟩
      have hr : rowsTo n d P P.length = rowsTo n d P i := by
        unfold rowsTo
        rw [List.take_of_length_le (Nat.le_refl _), List.take_of_length_le (by omega)]
      rw [hr]
      exact (((HM6.front 2 rfl).drop 2).drop 2).drop 2
end Go.Proofs.Ytlffephcbfdknaa.Wk
