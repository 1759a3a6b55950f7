/- Walk by hand: turn.Turn. -/
import Derived.Test.YtlffephcbfdknaaKWk6
import Derived.Test.YtlffephcbfdknaaK2
set_option linter.unusedVariables false
set_option linter.unusedSimpArgs false
namespace Go.Proofs.Ytlffephcbfdknaa.Wk
open Go.RowKit Go.Proofs.YtlffephcbfdknaaW.PrintWords Go.Proofs.YtlffephcbfdknaaW.PrintMore Go.Proofs.YtlffephcbfdknaaW.PrintLast Go.Proofs.Sep Go.Proofs.Fil Go.Proofs.Ytlffephcbfdknaa.Chk Go.Proofs.Ytlffephcbfdknaa.PTurnTakes

theorem turn1_calls (z : Int) (w : World) : Calls Try.prog 24 #[.int .i64 z] w fun e w' => e = .returned (.bool (z == 0)) ∧ Below w.heap.size w w' := by
  go_enter Try.func24, Try.ntmps24
  go_wp2
  refine bodyPost_ret (results_single rfl (.tmp .nil)) (by rfl) ⟨rfl, Below.refl _ _⟩
/-- is 0 in the set? -/
def zin (X : List Nat) : Bool := X.any (· == 0)
theorem zin_I (O : List (List Nat)) : (II O).map (·.any (fun z : Int => z == 0)) = O.map zin := by
  unfold II
  rw [List.map_map]
  refine List.map_congr_left (fun X _ => ?_)
  simp only [Function.comp_apply, I, zin, List.any_map]
  congr 1
  funext x
  simp only [Function.comp_apply]
  rw [Bool.eq_iff_iff]
  simp
theorem asked_zero (W : World) (X : List Int) : Asked W (.func (.func 24) #[] #[]) (fun z => z == 0) X :=
  ⟨_, _, _, rfl, Try.func24, by kernel_rfl, rfl, fun z _ w _ => turn1_calls z w⟩
/-- the automaton of the sets -/
def turnA (n : Nat) (T : Tab) (ends : List Bool) : Tab × List Bool := (rowsTo n (turnD T) (turnO n T ends) (turnO n T ends).length, (turnO n T ends).map zin)
theorem turnA_eq (n : Nat) (T : Tab) (ends : List Bool) : turnA n T ends = explored n (turnD T) zin (turnO n T ends) := by
  unfold turnA
  generalize turnO n T ends = O
  rw [rowsTo_all n (turnD T) zin]
  rfl
theorem turnA_fst (n : Nat) (T : Tab) (ends : List Bool) : (turnA n T ends).1 = rowsTo n (turnD T) (turnO n T ends) (turnO n T ends).length := by simp only [turnA]
theorem turnA_snd (n : Nat) (T : Tab) (ends : List Bool) : (turnA n T ends).2 = (turnO n T ends).map zin := by simp only [turnA]
theorem turnA_wf {n : Nat} {T : Tab} {ends : List Bool} (h : (turnO n T ends).length ≤ 2000) : WF n (turnA n T ends).1 (turnA n T ends).2 := by
  rw [turnA_eq]
  exact explored_wf n (turnD T) zin (nrm (fin ends T.length)) (N := 2001) (by unfold turnO at h; omega)

theorem turn_uniq {base tracks : Int} {l2 : List (List Int)} {l3 : List Bool} {n n' : Nat} {T T' : Tab} {out out' : Tab × List Bool} (h1 : Ok base tracks l2 l3 n T) (h2 : Go.Proofs.Fil.Can n (lof n (T, l3) 0) out) (h1' : Ok base tracks l2 l3 n' T') (h2' : Go.Proofs.Fil.Can n' (lof n' (T', l3) 0) out') : n = n' ∧ T = T' ∧ out = out' := by
  obtain ⟨rfl, rfl⟩ := Ok.unique h1 h1'
  exact ⟨rfl, rfl, h2.unique h2'⟩

/-- What Turn answers. -/
def TurnPost (base tracks : Int) (l2 : List (List Int)) (l3 : List Bool) (B : Nat) (e : Ending) (w' : World) : Prop :=
      ((∃ n T out m, Ok base tracks l2 l3 n T ∧ Go.Proofs.Fil.Can n (lof n (T, l3) 0) out ∧ (turnO n out.1 out.2).length ≤ 2000 ∧ Go.Proofs.Fil.Can n (lof n (turnA n out.1 out.2) 0) m ∧ m.1.length ≤ 80 ∧
          ∃ v2 v3, e = .returned (.tuple #[.agg #[.int .i64 base, .int .i64 tracks, v2, v3], .nilIface]) ∧ kL.R 26 w' B (fun _ => True) v2 (II m.1) ∧ kB.R 4 w' B (fun _ => True) v3 m.2) ∨
       (∃ x, (x = 1 ∨ x = 2 ∨ x = 3 ∨ x = 4) ∧ e = .returned (.tuple #[.agg #[.int .i64 0, .int .i64 0, .slice none 0 0, .slice none 0 0], errW (some x)]) ∧
          ((¬ ∃ n T, Ok base tracks l2 l3 n T) ∨ (x = 3 ∧ ∃ n T out, Ok base tracks l2 l3 n T ∧ Go.Proofs.Fil.Can n (lof n (T, l3) 0) out ∧
            (2000 < (turnO n out.1 out.2).length ∨ ((turnO n out.1 out.2).length ≤ 2000 ∧ ∃ m, Go.Proofs.Fil.Can n (lof n (turnA n out.1 out.2) 0) m ∧ 80 < m.1.length))))))
set_option maxRecDepth 100000 in
set_option maxHeartbeats 4000000 in
theorem turn_calls (base tracks : Int) (A2 : Option Addr) (c2 : Nat) (l2 : List (List Int)) (A3 : Option Addr) (c3 : Nat) (l3 : List Bool) (W : World) (hC2 : kL.C W A2 l2.length l2) (h2 : l2.length ≤ c2) (hC3 : kB.C W A3 l3.length l3) (h3 : l3.length ≤ c3) :
    Calls Try.prog 8 #[.agg #[.int .i64 base, .int .i64 tracks, .slice A2 l2.length c2, .slice A3 l3.length c3]] W fun e w' => Below W.heap.size W w' ∧
      TurnPost base tracks l2 l3 W.heap.size e w' := by
  have HC2 := Aside0.mk hC2
  have HC3 := Aside0.mk hC3
  have H2 := Aside0.mk h2
  have H3 := Aside0.mk h3
  clear hC2 hC3 h2 h3
  have HM := Mem.start W
  by_cases hno : (∃ n T out, Ok base tracks l2 l3 n T ∧ Go.Proofs.Fil.Can n (lof n (T, l3) 0) out ∧ (turnO n out.1 out.2).length ≤ 2000)
  · obtain ⟨n, T, out, hok, hcan, hO2⟩ := hno
    have hn := manyN_le hok.many
    have HOK := Aside0.mk hok
    have HCAN := Aside0.mk hcan
    have HO2 := Aside0.mk hO2
    obtain ⟨O, hOO⟩ : ∃ O, O = turnO n out.1 out.2 := ⟨_, rfl⟩
    obtain ⟨TA, hTA⟩ : ∃ TA, TA = turnA n out.1 out.2 := ⟨_, rfl⟩
    have HOO := Aside0.mk hOO
    have HTA := Aside0.mk hTA
    have HOL := Aside0.mk (show O.length ≤ 2000 by rw [hOO]; exact hO2)
    have HEE := Aside0.mk (show TA.2 = O.map zin by rw [hTA, hOO]; exact turnA_snd n out.1 out.2)
    have HWFA := Aside0.mk (show WF n TA.1 TA.2 by rw [hTA]; exact turnA_wf hO2)
    have HTAL := Aside0.mk (show TA.1.length ≤ 2000 by rw [← HWFA.out.len, HEE.out, List.length_map]; exact HOL.out)
    clear hOO hTA hok hcan hO2
    by_cases h80 : ∃ m, Go.Proofs.Fil.Can n (lof n TA 0) m ∧ m.1.length ≤ 80
    · have H80 := Aside0.mk h80
      clear h80
      go_enter Try.func8, Try.ntmps8
      go_wp2_with (first
        | ((with_reducible refine gate_dst (N := 1) rfl ?_); refine box_event ?hg (N := 1) ?hd (cs := #[.int .i64 base, .int .i64 tracks, .slice A2 l2.length c2, .slice A3 l3.length c3]) (t := 25) ?hr ?_; (case hd => rfl); (case hg => rfl); (case hr => first | (go_simp; done) | (go_simp; rfl)); intro g1 hg1 w1 hb1 hbel; have HM1 := HM.blk_ hg1 hb1 hbel; clear HM hg1 hb1 hbel)
        | ((with_reducible refine gate_dst (N := 2) rfl ?_); refine box_event ?hg (N := 2) ?hd (cs := #[.int .i64 0, .int .i64 0, .slice none 0 0, .slice none 0 0]) (t := 25) ?hr ?_; (case hd => rfl); (case hg => rfl); (case hr => first | (go_simp; done) | (go_simp; rfl)); intro g2 hg2 w2 hb2 hbel; have HM2 := HM1.blk_ hg2 hb2 hbel; clear HM1 hg2 hb2 hbel)
        | ((with_reducible refine gate_dst (N := 10) rfl ?_); (refine HM2.loadAll 1 rfl 25 (.tmp 1) rfl _ rfl Try.underlying25 rfl (by exact infoA4) rfl ?_))
        | (go_at_call 21; (refine (turned_calls base tracks A2 c2 l2 A3 c3 l3 _ (Kd.C_below HC2.out HM2.below) H2.out (Kd.C_below HC3.out HM2.below) H3.out).mono ?_; rintro e w3 ⟨hb, hcase⟩; have hcase2 : ∃ vs vn, e = .returned (.tuple #[vs, vn, .nilIface]) ∧ kL.R 26 w3 w2.heap.size (fun _ => True) vs (II (turnO n out.1 out.2)) ∧ kL.R 26 w3 w2.heap.size (fun _ => True) vn (II (turnA n out.1 out.2).1) := (by rcases hcase with ⟨n', T', out', h1, h2, h3 | h3⟩ | ⟨h1, _⟩; (obtain ⟨rfl, rfl, rfl⟩ := turn_uniq HOK.out HCAN.out h1 h2; rw [turnA_fst]; exact h3.2); (obtain ⟨rfl, rfl, rfl⟩ := turn_uniq HOK.out HCAN.out h1 h2; exact absurd h3.1 (by have := HO2.out; omega)); (exact absurd ⟨n, T, HOK.out⟩ h1)); obtain ⟨vs, vn, rfl, hr2, hr3⟩ := hcase2; clear hcase; rw [← HOO.out] at hr2; rw [← HTA.out] at hr3; obtain ⟨As, cs, rfl⟩ := Kd.R_slice hr2; obtain ⟨An, cn, rfl⟩ := Kd.R_slice hr3; have HM3 := HM2.rows2 hb hr2 hr3; clear HM2 hb hr2 hr3)))
      have hc0 : w3.cell? ⟨g1, 0, none⟩ = some (.int .i64 base) := (HM3.cell (i := 2) rfl 0).1
      have hc1 : w3.cell? ⟨g1, 1, none⟩ = some (.int .i64 tracks) := (HM3.cell (i := 2) rfl 1).1
      have HM4 := HM3.grow (Below.refl _ _).drew
      clear HM3
      refine start_ (n := 14) (S := fun w' => w'.cell? ⟨g1, 0, none⟩ = some (.int .i64 base) ∧ w'.cell? ⟨g1, 1, none⟩ = some (.int .i64 tracks)) (ds := [12]) #[false, false, false, false, false, false, false, false, false, false, false, false, false, false] (by kernel_rfl) rfl rfl ⟨hc0, hc1⟩ (fun hHeld => ?_)
      generalize w3.drew = w4 at HM4 hHeld ⊢
      refine pure_ (i := 0) (N := some 20) (v := ?_) (a' := ?_) #[true, false, false, false, false, false, false, false, false, false, false, false, false, false] rfl rfl (by kernel_rfl) (fun _ _ _ h => h) (Or.inl ⟨by rfl, ?_⟩) ?_ ?_
      rotate_left
      · intro w'
        go_simp
        with_reducible rfl
      rotate_left
      · simp only [Act.put, List.setIfInBounds_toArray, List.set_cons_zero, List.set_cons_succ, i64_w, i32_w]
        rfl
      refine pure_ (i := 2) (N := some 22) (v := ?_) (a' := ?_) #[true, false, true, false, false, false, false, false, false, false, false, false, false, false] rfl rfl (by kernel_rfl) (fun _ _ _ h => h) (Or.inl ⟨by rfl, ?_⟩) ?_ ?_
      rotate_left
      · intro w'
        go_simp
        with_reducible rfl
      rotate_left
      · simp only [Act.put, List.setIfInBounds_toArray, List.set_cons_zero, List.set_cons_succ, i64_w, i32_w]
        rfl
      refine pure_ (i := 4) (N := some 24) (v := ?_) (a' := ?_) #[true, false, true, false, true, false, false, false, false, false, false, false, false, false] rfl rfl (by kernel_rfl) (fun _ _ _ h => h) (Or.inl ⟨by rfl, ?_⟩) ?_ ?_
      rotate_left
      · intro w'
        go_simp
        with_reducible rfl
      rotate_left
      · simp only [Act.put, List.setIfInBounds_toArray, List.set_cons_zero, List.set_cons_succ, i64_w, i32_w]
        rfl
      refine pure_ (i := 5) (N := some 25) (v := ?_) (a' := ?_) #[true, false, true, false, true, true, false, false, false, false, false, false, false, false] rfl rfl (by kernel_rfl) (fun _ _ _ h => h) (Or.inl ⟨by rfl, ?_⟩) ?_ ?_
      rotate_left
      · intro w'
        go_simp
        with_reducible rfl
      rotate_left
      · simp only [Act.put, List.setIfInBounds_toArray, List.set_cons_zero, List.set_cons_succ, i64_w, i32_w]
        rfl
      refine take_ (i := 1) (N := some 21) (v := ?_) (a' := ?_) #[true, true, true, false, true, true, false, false, false, false, false, false, false, false] rfl rfl (by kernel_rfl) (fun _ _ _ h => h) (Or.inl ⟨by rfl, ?_⟩) hHeld ?_ ?_
      rotate_left
      · rintro w' ⟨s0, s1⟩
        go_simp
        with_reducible rfl
      rotate_left
      · simp only [Act.put, List.setIfInBounds_toArray, List.set_cons_zero, List.set_cons_succ, i64_w, i32_w]
        rfl
      refine take_ (i := 3) (N := some 23) (v := ?_) (a' := ?_) #[true, true, true, true, true, true, false, false, false, false, false, false, false, false] rfl rfl (by kernel_rfl) (fun _ _ _ h => h) (Or.inl ⟨by rfl, ?_⟩) hHeld ?_ ?_
      rotate_left
      · rintro w' ⟨s0, s1⟩
        go_simp
        with_reducible rfl
      rotate_left
      · simp only [Act.put, List.setIfInBounds_toArray, List.set_cons_zero, List.set_cons_succ, i64_w, i32_w]
        rfl
      refine join_ (σ := (Option Addr × Nat × Option Addr × Nat) × (Tab × List Bool) × Value × Nat) 2 #[true, true, true, true, true, true, true, true, true, true, true, true, false, false] (fun s => [(26, s.2.2.1), (27, .tuple #[.agg #[.int .i64 base, .int .i64 tracks, .slice s.1.1 (II s.2.1.1).length s.1.2.1, .slice s.1.2.2.1 s.2.1.2.length s.1.2.2.2], .bool true]), (19, .tuple #[.agg #[.int .i64 base, .int .i64 tracks, .slice s.1.1 (II s.2.1.1).length s.1.2.1, .slice s.1.2.2.1 s.2.1.2.length s.1.2.2.2], .bool true]), (28, .agg #[.int .i64 base, .int .i64 tracks, .slice s.1.1 (II s.2.1.1).length s.1.2.1, .slice s.1.2.2.1 s.2.1.2.length s.1.2.2.2]), (29, .bool true), (7, .pointer (some ⟨s.2.2.2, 0, none⟩))]) (fun s w' => Go.Proofs.Fil.Can n (lof n TA 0) s.2.1 ∧ s.2.1.1.length ≤ 80 ∧ Mem W.heap.size (fun _ => False) W w' [blk s.2.2.2 #[.int .i64 0, .int .i64 0, .slice none 0 0, .slice none 0 0] 25, two (row kL 26 (.slice s.1.1 (II s.2.1.1).length s.1.2.1) (II s.2.1.1)) (row kB 4 (.slice s.1.2.2.1 s.2.1.2.length s.1.2.2.2) s.2.1.2), blk g2 #[.int .i64 0, .int .i64 0, .slice none 0 0, .slice none 0 0] 25, blk g1 #[.int .i64 base, .int .i64 tracks, .slice A2 l2.length c2, .slice A3 l3.length c3] 25]) ?_ ?_
      rotate_left
      · intro hCont
        refine two_ (i := 6) (j := 11) (Ni := some 26) (Nj := some 7) #[true, true, true, true, true, true, true, false, false, false, false, false, false, false] #[true, true, true, true, true, true, false, false, false, false, false, true, false, false] rfl rfl rfl rfl (by kernel_rfl) (by decide) (by decide) (fun K hK => ?_) (fun K hK => ?_)
        · skip
          refine goes_ Try.func23 (by kernel_rfl) rfl #[.slice As (II O).length cs, .func (.func 24) #[] #[]] (by rfl) rfl rfl (by simp only [List.map_toArray, List.map_cons, List.map_nil]; rfl) ?_
          have hrs := HM4.two_ (i := 0) rfl
          refine (ends_calls As cs (II O) (.func (.func 24) #[] #[]) (fun z => z == 0) _ (Kd.R_reads' hrs.1).2.2 (by rw [II_len]; have := HOL.out; omega) (fun s _ => asked_zero _ s)).mono ?_
          rintro e w5 ⟨vE, rfl, hrE, hb⟩
          rw [zin_I, ← HEE.out] at hrE
          refine ⟨_, rfl, ?_⟩
          replace HM4 := HM4.row_ hb hrE
          clear hb hrE hrs
          refine hK.out _ _ ⟨(HM4.cell (i := 3) rfl 0).1, (HM4.cell (i := 3) rfl 1).1⟩ (fun hHeld => ?_)
          clear hK K
          refine norm_ (a' := ?_) ?_ ?_
          rotate_left
          · show Act.put _ (some 26) _ = _
            simp only [Act.put, List.setIfInBounds_toArray, List.set_cons_zero, List.set_cons_succ, i64_w, i32_w]
            rfl
          refine two_ (i := 7) (j := 11) (Ni := some 27) (Nj := some 7) #[true, true, true, true, true, true, true, true, false, false, false, false, false, false] #[true, true, true, true, true, true, true, false, false, false, false, true, false, false] rfl rfl rfl rfl (by kernel_rfl) (by decide) (by decide) (fun K hK => ?_) (fun K hK => ?_)
          · skip
            obtain ⟨AE, cE, eE, _, hCE⟩ := HM4.rowSlice (i := 0) rfl
            subst eE
            refine goes_ Try.func22 (by kernel_rfl) rfl #[.int .i64 base, .int .i64 tracks, .slice An (II TA.1).length cn, .slice AE TA.2.length cE] (by rfl) rfl rfl (by simp only [List.map_toArray, List.map_cons, List.map_nil]; rfl) ?_
            have hrs := HM4.two_ (i := 1) rfl
            refine (shrink_calls n TA.1 TA.2 HWFA.out (by have := HTAL.out; omega) (by omega) base tracks An cn AE cE _ (Kd.R_reads' hrs.2).2.2 hCE).mono ?_
            rintro e w6 ⟨m, hm, hcase, hb⟩
            have hc2 : m.1.length ≤ 80 ∧ ∃ v2 v3 : Value, e = .returned (.tuple #[.agg #[.int .i64 base, .int .i64 tracks, v2, v3], .bool true]) ∧ kL.R 26 w6 w5.heap.size (fun _ => True) v2 (II m.1) ∧ kB.R 4 w6 w5.heap.size (fun _ => True) v3 m.2 := by
              rcases hcase with h | ⟨h, _⟩
              · exact h
              · obtain ⟨m', h1, h2⟩ := H80.out
                rw [hm.unique h1] at h
                omega
            obtain ⟨hm80, v2, v3, rfl, hq2, hq3⟩ := hc2
            obtain ⟨A6, c6, rfl⟩ := Kd.R_slice hq2
            obtain ⟨A7, c7, rfl⟩ := Kd.R_slice hq3
            refine ⟨_, rfl, ?_⟩
            replace HM4 := HM4.rows2 hb hq2 hq3
            clear hb hq2 hq3 hcase hrs hCE
            refine hK.out _ _ ⟨(HM4.cell (i := 4) rfl 0).1, (HM4.cell (i := 4) rfl 1).1⟩ (fun hHeld => ?_)
            clear hK K
            refine norm_ (a' := ?_) ?_ ?_
            rotate_left
            · show Act.put _ (some 27) _ = _
              simp only [Act.put, List.setIfInBounds_toArray, List.set_cons_zero, List.set_cons_succ, i64_w, i32_w]
              rfl
            refine pure_ (i := 8) (N := some 19) (v := ?_) (a' := ?_) #[true, true, true, true, true, true, true, true, true, false, false, false, false, false] rfl rfl (by kernel_rfl) (fun _ _ _ h => h) (Or.inl ⟨by rfl, ?_⟩) ?_ ?_
            rotate_left
            · intro w'
              go_simp
              with_reducible rfl
            rotate_left
            · simp only [Act.put, List.setIfInBounds_toArray, List.set_cons_zero, List.set_cons_succ, i64_w, i32_w]
              rfl
            refine pure_ (i := 9) (N := some 28) (v := ?_) (a' := ?_) #[true, true, true, true, true, true, true, true, true, true, false, false, false, false] rfl rfl (by kernel_rfl) (fun _ _ _ h => h) (Or.inl ⟨by rfl, ?_⟩) ?_ ?_
            rotate_left
            · intro w'
              go_simp
              with_reducible rfl
            rotate_left
            · simp only [Act.put, List.setIfInBounds_toArray, List.set_cons_zero, List.set_cons_succ, i64_w, i32_w]
              rfl
            refine pure_ (i := 10) (N := some 29) (v := ?_) (a' := ?_) #[true, true, true, true, true, true, true, true, true, true, true, false, false, false] rfl rfl (by kernel_rfl) (fun _ _ _ h => h) (Or.inl ⟨by rfl, ?_⟩) ?_ ?_
            rotate_left
            · intro w'
              go_simp
              with_reducible rfl
            rotate_left
            · simp only [Act.put, List.setIfInBounds_toArray, List.set_cons_zero, List.set_cons_succ, i64_w, i32_w]
              rfl
            refine one_ (i := 11) (N := some 7) #[true, true, true, true, true, true, true, true, true, true, true, true, false, false] rfl rfl (by kernel_rfl) (by decide) (fun K hK => ?_)
            refine HM4.boxStep (by rfl) (N := 7) rfl (cs := #[.int .i64 0, .int .i64 0, .slice none 0 0, .slice none 0 0]) (t := 25) ?hr ?_
            (case hr => first | (go_simp; done) | (go_simp; rfl))
            intro g7 w7 HM5
            clear HM4
            have HM4 := HM5
            clear HM5
            refine hK.out _ _ ⟨(HM4.cell (i := 5) rfl 0).1, (HM4.cell (i := 5) rfl 1).1⟩ (fun hHeld => ?_)
            clear hK K
            refine norm_ (a' := ?_) ?_ ?_
            rotate_left
            · show Act.put _ (some 7) _ = _
              simp only [Act.put, List.setIfInBounds_toArray, List.set_cons_zero, List.set_cons_succ, i64_w, i32_w]
              rfl
            exact norm_ (by simp only [putAll, Act.put, List.setIfInBounds_toArray, List.set_cons_zero, List.set_cons_succ]) (hCont ⟨⟨A6, c6, A7, c7⟩, m, (.slice AE TA.2.length cE), g7⟩ _ ⟨hm, hm80, ((((((HM4.drop 2).drop 2).front 3 rfl).front 3 rfl).front 3 rfl).front 3 rfl)⟩)
          · skip
            refine HM4.boxStep (by rfl) (N := 7) rfl (cs := #[.int .i64 0, .int .i64 0, .slice none 0 0, .slice none 0 0]) (t := 25) ?hr ?_
            (case hr => first | (go_simp; done) | (go_simp; rfl))
            intro g7 w7 HM5
            clear HM4
            have HM4 := HM5
            clear HM5
            refine hK.out _ _ ⟨(HM4.cell (i := 4) rfl 0).1, (HM4.cell (i := 4) rfl 1).1⟩ (fun hHeld => ?_)
            clear hK K
            refine norm_ (a' := ?_) ?_ ?_
            rotate_left
            · show Act.put _ (some 7) _ = _
              simp only [Act.put, List.setIfInBounds_toArray, List.set_cons_zero, List.set_cons_succ, i64_w, i32_w]
              rfl
            refine one_ (i := 7) (N := some 27) #[true, true, true, true, true, true, true, true, false, false, false, true, false, false] rfl rfl (by kernel_rfl) (by decide) (fun K hK => ?_)
            obtain ⟨AE, cE, eE, _, hCE⟩ := HM4.rowSlice (i := 1) rfl
            subst eE
            refine goes_ Try.func22 (by kernel_rfl) rfl #[.int .i64 base, .int .i64 tracks, .slice An (II TA.1).length cn, .slice AE TA.2.length cE] (by rfl) rfl rfl (by simp only [List.map_toArray, List.map_cons, List.map_nil]; rfl) ?_
            have hrs := HM4.two_ (i := 2) rfl
            refine (shrink_calls n TA.1 TA.2 HWFA.out (by have := HTAL.out; omega) (by omega) base tracks An cn AE cE _ (Kd.R_reads' hrs.2).2.2 hCE).mono ?_
            rintro e w6 ⟨m, hm, hcase, hb⟩
            have hc2 : m.1.length ≤ 80 ∧ ∃ v2 v3 : Value, e = .returned (.tuple #[.agg #[.int .i64 base, .int .i64 tracks, v2, v3], .bool true]) ∧ kL.R 26 w6 w7.heap.size (fun _ => True) v2 (II m.1) ∧ kB.R 4 w6 w7.heap.size (fun _ => True) v3 m.2 := by
              rcases hcase with h | ⟨h, _⟩
              · exact h
              · obtain ⟨m', h1, h2⟩ := H80.out
                rw [hm.unique h1] at h
                omega
            obtain ⟨hm80, v2, v3, rfl, hq2, hq3⟩ := hc2
            obtain ⟨A6, c6, rfl⟩ := Kd.R_slice hq2
            obtain ⟨A7, c7, rfl⟩ := Kd.R_slice hq3
            refine ⟨_, rfl, ?_⟩
            replace HM4 := HM4.rows2 hb hq2 hq3
            clear hb hq2 hq3 hcase hrs hCE
            refine hK.out _ _ ⟨(HM4.cell (i := 5) rfl 0).1, (HM4.cell (i := 5) rfl 1).1⟩ (fun hHeld => ?_)
            clear hK K
            refine norm_ (a' := ?_) ?_ ?_
            rotate_left
            · show Act.put _ (some 27) _ = _
              simp only [Act.put, List.setIfInBounds_toArray, List.set_cons_zero, List.set_cons_succ, i64_w, i32_w]
              rfl
            refine pure_ (i := 8) (N := some 19) (v := ?_) (a' := ?_) #[true, true, true, true, true, true, true, true, true, false, false, true, false, false] rfl rfl (by kernel_rfl) (fun _ _ _ h => h) (Or.inl ⟨by rfl, ?_⟩) ?_ ?_
            rotate_left
            · intro w'
              go_simp
              with_reducible rfl
            rotate_left
            · simp only [Act.put, List.setIfInBounds_toArray, List.set_cons_zero, List.set_cons_succ, i64_w, i32_w]
              rfl
            refine pure_ (i := 9) (N := some 28) (v := ?_) (a' := ?_) #[true, true, true, true, true, true, true, true, true, true, false, true, false, false] rfl rfl (by kernel_rfl) (fun _ _ _ h => h) (Or.inl ⟨by rfl, ?_⟩) ?_ ?_
            rotate_left
            · intro w'
              go_simp
              with_reducible rfl
            rotate_left
            · simp only [Act.put, List.setIfInBounds_toArray, List.set_cons_zero, List.set_cons_succ, i64_w, i32_w]
              rfl
            refine pure_ (i := 10) (N := some 29) (v := ?_) (a' := ?_) #[true, true, true, true, true, true, true, true, true, true, true, true, false, false] rfl rfl (by kernel_rfl) (fun _ _ _ h => h) (Or.inl ⟨by rfl, ?_⟩) ?_ ?_
            rotate_left
            · intro w'
              go_simp
              with_reducible rfl
            rotate_left
            · simp only [Act.put, List.setIfInBounds_toArray, List.set_cons_zero, List.set_cons_succ, i64_w, i32_w]
              rfl
            exact norm_ (by simp only [putAll, Act.put, List.setIfInBounds_toArray, List.set_cons_zero, List.set_cons_succ]) (hCont ⟨⟨A6, c6, A7, c7⟩, m, (.slice AE TA.2.length cE), g7⟩ _ ⟨hm, hm80, ((((((HM4.drop 2).drop 2).front 3 rfl).front 3 rfl).front 2 rfl).front 3 rfl)⟩)
        · skip
          refine HM4.boxStep (by rfl) (N := 7) rfl (cs := #[.int .i64 0, .int .i64 0, .slice none 0 0, .slice none 0 0]) (t := 25) ?hr ?_
          (case hr => first | (go_simp; done) | (go_simp; rfl))
          intro g7 w7 HM5
          clear HM4
          have HM4 := HM5
          clear HM5
          refine hK.out _ _ ⟨(HM4.cell (i := 3) rfl 0).1, (HM4.cell (i := 3) rfl 1).1⟩ (fun hHeld => ?_)
          clear hK K
          refine norm_ (a' := ?_) ?_ ?_
          rotate_left
          · show Act.put _ (some 7) _ = _
            simp only [Act.put, List.setIfInBounds_toArray, List.set_cons_zero, List.set_cons_succ, i64_w, i32_w]
            rfl
          refine one_ (i := 6) (N := some 26) #[true, true, true, true, true, true, true, false, false, false, false, true, false, false] rfl rfl (by kernel_rfl) (by decide) (fun K hK => ?_)
          refine goes_ Try.func23 (by kernel_rfl) rfl #[.slice As (II O).length cs, .func (.func 24) #[] #[]] (by rfl) rfl rfl (by simp only [List.map_toArray, List.map_cons, List.map_nil]; rfl) ?_
          have hrs := HM4.two_ (i := 1) rfl
          refine (ends_calls As cs (II O) (.func (.func 24) #[] #[]) (fun z => z == 0) _ (Kd.R_reads' hrs.1).2.2 (by rw [II_len]; have := HOL.out; omega) (fun s _ => asked_zero _ s)).mono ?_
          rintro e w5 ⟨vE, rfl, hrE, hb⟩
          rw [zin_I, ← HEE.out] at hrE
          refine ⟨_, rfl, ?_⟩
          replace HM4 := HM4.row_ hb hrE
          clear hb hrE hrs
          refine hK.out _ _ ⟨(HM4.cell (i := 4) rfl 0).1, (HM4.cell (i := 4) rfl 1).1⟩ (fun hHeld => ?_)
          clear hK K
          refine norm_ (a' := ?_) ?_ ?_
          rotate_left
          · show Act.put _ (some 26) _ = _
            simp only [Act.put, List.setIfInBounds_toArray, List.set_cons_zero, List.set_cons_succ, i64_w, i32_w]
            rfl
          refine one_ (i := 7) (N := some 27) #[true, true, true, true, true, true, true, true, false, false, false, true, false, false] rfl rfl (by kernel_rfl) (by decide) (fun K hK => ?_)
          obtain ⟨AE, cE, eE, _, hCE⟩ := HM4.rowSlice (i := 0) rfl
          subst eE
          refine goes_ Try.func22 (by kernel_rfl) rfl #[.int .i64 base, .int .i64 tracks, .slice An (II TA.1).length cn, .slice AE TA.2.length cE] (by rfl) rfl rfl (by simp only [List.map_toArray, List.map_cons, List.map_nil]; rfl) ?_
          have hrs := HM4.two_ (i := 2) rfl
          refine (shrink_calls n TA.1 TA.2 HWFA.out (by have := HTAL.out; omega) (by omega) base tracks An cn AE cE _ (Kd.R_reads' hrs.2).2.2 hCE).mono ?_
          rintro e w6 ⟨m, hm, hcase, hb⟩
          have hc2 : m.1.length ≤ 80 ∧ ∃ v2 v3 : Value, e = .returned (.tuple #[.agg #[.int .i64 base, .int .i64 tracks, v2, v3], .bool true]) ∧ kL.R 26 w6 w5.heap.size (fun _ => True) v2 (II m.1) ∧ kB.R 4 w6 w5.heap.size (fun _ => True) v3 m.2 := by
            rcases hcase with h | ⟨h, _⟩
            · exact h
            · obtain ⟨m', h1, h2⟩ := H80.out
              rw [hm.unique h1] at h
              omega
          obtain ⟨hm80, v2, v3, rfl, hq2, hq3⟩ := hc2
          obtain ⟨A6, c6, rfl⟩ := Kd.R_slice hq2
          obtain ⟨A7, c7, rfl⟩ := Kd.R_slice hq3
          refine ⟨_, rfl, ?_⟩
          replace HM4 := HM4.rows2 hb hq2 hq3
          clear hb hq2 hq3 hcase hrs hCE
          refine hK.out _ _ ⟨(HM4.cell (i := 5) rfl 0).1, (HM4.cell (i := 5) rfl 1).1⟩ (fun hHeld => ?_)
          clear hK K
          refine norm_ (a' := ?_) ?_ ?_
          rotate_left
          · show Act.put _ (some 27) _ = _
            simp only [Act.put, List.setIfInBounds_toArray, List.set_cons_zero, List.set_cons_succ, i64_w, i32_w]
            rfl
          refine pure_ (i := 8) (N := some 19) (v := ?_) (a' := ?_) #[true, true, true, true, true, true, true, true, true, false, false, true, false, false] rfl rfl (by kernel_rfl) (fun _ _ _ h => h) (Or.inl ⟨by rfl, ?_⟩) ?_ ?_
          rotate_left
          · intro w'
            go_simp
            with_reducible rfl
          rotate_left
          · simp only [Act.put, List.setIfInBounds_toArray, List.set_cons_zero, List.set_cons_succ, i64_w, i32_w]
            rfl
          refine pure_ (i := 9) (N := some 28) (v := ?_) (a' := ?_) #[true, true, true, true, true, true, true, true, true, true, false, true, false, false] rfl rfl (by kernel_rfl) (fun _ _ _ h => h) (Or.inl ⟨by rfl, ?_⟩) ?_ ?_
          rotate_left
          · intro w'
            go_simp
            with_reducible rfl
          rotate_left
          · simp only [Act.put, List.setIfInBounds_toArray, List.set_cons_zero, List.set_cons_succ, i64_w, i32_w]
            rfl
          refine pure_ (i := 10) (N := some 29) (v := ?_) (a' := ?_) #[true, true, true, true, true, true, true, true, true, true, true, true, false, false] rfl rfl (by kernel_rfl) (fun _ _ _ h => h) (Or.inl ⟨by rfl, ?_⟩) ?_ ?_
          rotate_left
          · intro w'
            go_simp
            with_reducible rfl
          rotate_left
          · simp only [Act.put, List.setIfInBounds_toArray, List.set_cons_zero, List.set_cons_succ, i64_w, i32_w]
            rfl
          exact norm_ (by simp only [putAll, Act.put, List.setIfInBounds_toArray, List.set_cons_zero, List.set_cons_succ]) (hCont ⟨⟨A6, c6, A7, c7⟩, m, (.slice AE TA.2.length cE), g7⟩ _ ⟨hm, hm80, ((((((HM4.drop 1).drop 2).front 3 rfl).front 3 rfl).front 2 rfl).front 3 rfl)⟩)
      rintro ⟨⟨A6, c6, A7, c7⟩, m, vE, g7⟩ w' ⟨hm, hm80, HM7⟩
      have HMM := Aside0.mk hm
      have HM80 := Aside0.mk hm80
      clear hm hm80
      have hHeld : w'.cell? ⟨g1, 0, none⟩ = some (.int .i64 base) ∧ w'.cell? ⟨g1, 1, none⟩ = some (.int .i64 tracks) := ⟨(HM7.cell (i := 3) rfl 0).1, (HM7.cell (i := 3) rfl 1).1⟩
      refine norm_ (a' := ?_) ?_ ?_
      rotate_left
      · simp only [putAll, Act.put, List.setIfInBounds_toArray, List.set_cons_zero, List.set_cons_succ]
        rfl
      refine last_ (i := 12) (N := none) #[true, true, true, true, true, true, true, true, true, true, true, true, true, false] rfl rfl (by kernel_rfl) (by decide) (fun K hK => ?_)
      refine HM7.storeAllStep 0 rfl (by rfl) 25 (.tmp 7) (.tmp 28) rfl (us := #[.int .i64 base, .int .i64 tracks, .slice A6 (II m.1).length c6, .slice A7 m.2.length c7]) rfl rfl (one4 rfl rfl rfl rfl) (by exact infoA4) rfl rfl ?_
      intro w8 HM8
      clear HM7
      refine hK.out _ _ ?_
      clear hK K
      refine pure_ (i := 13) (N := some 8) (v := ?_) (a' := ?_) #[true, true, true, true, true, true, true, true, true, true, true, true, true, true] rfl rfl (by kernel_rfl) (fun _ _ _ h => h) (Or.inl ⟨by rfl, ?_⟩) ?_ ?_
      rotate_left
      · intro w'
        go_simp
        with_reducible rfl
      rotate_left
      · simp only [Act.put, List.setIfInBounds_toArray, List.set_cons_zero, List.set_cons_succ, i64_w, i32_w]
        rfl
      refine done_ (by kernel_rfl) ?_
      go_wp2_with (first
        | ((with_reducible refine gate_dst (N := 34) rfl ?_); (refine HM8.loadAll 0 rfl 25 (.tmp 7) rfl _ rfl Try.underlying25 rfl (by exact infoA4) rfl ?_))
        | ((with_reducible refine gate_store (t := 25) (p := 2) rfl ?_); (refine HM8.storeAll 2 rfl rfl 25 (.tmp 2) _ rfl (us := #[.int .i64 base, .int .i64 tracks, .slice A6 (II m.1).length c6, .slice A7 m.2.length c7]) rfl rfl (one4 rfl rfl rfl rfl) (by exact infoA4) rfl rfl ?_; intro w9 HM9; clear HM8)))
      refine bodyPost_ret (results_list (rs := [.cell 2 25, .tmp 3]) rfl (by simp) (.cell g2 25 _ (0, 0) _ rfl (HM9.blkAt (i := 2) rfl).1 Try.underlying25 rfl infoA4 (.tmp .nil))) (by rfl) ?_
      have hq := HM9.two_ (i := 1) rfl
      exact ⟨HM9.below, .inl ⟨n, T, out, m, HOK.out, HCAN.out, HO2.out, (by rw [← HTA.out]; exact HMM.out), HM80.out, _, _, rfl, hq.1, hq.2⟩⟩
    · have H80 := Aside0.mk h80
      clear h80
      go_enter Try.func8, Try.ntmps8
      go_wp2_with (first
        | ((with_reducible refine gate_dst (N := 1) rfl ?_); refine box_event ?hg (N := 1) ?hd (cs := #[.int .i64 base, .int .i64 tracks, .slice A2 l2.length c2, .slice A3 l3.length c3]) (t := 25) ?hr ?_; (case hd => rfl); (case hg => rfl); (case hr => first | (go_simp; done) | (go_simp; rfl)); intro g1 hg1 w1 hb1 hbel; have HM1 := HM.blk_ hg1 hb1 hbel; clear HM hg1 hb1 hbel)
        | ((with_reducible refine gate_dst (N := 2) rfl ?_); refine box_event ?hg (N := 2) ?hd (cs := #[.int .i64 0, .int .i64 0, .slice none 0 0, .slice none 0 0]) (t := 25) ?hr ?_; (case hd => rfl); (case hg => rfl); (case hr => first | (go_simp; done) | (go_simp; rfl)); intro g2 hg2 w2 hb2 hbel; have HM2 := HM1.blk_ hg2 hb2 hbel; clear HM1 hg2 hb2 hbel)
        | ((with_reducible refine gate_dst (N := 10) rfl ?_); (refine HM2.loadAll 1 rfl 25 (.tmp 1) rfl _ rfl Try.underlying25 rfl (by exact infoA4) rfl ?_))
        | (go_at_call 21; (refine (turned_calls base tracks A2 c2 l2 A3 c3 l3 _ (Kd.C_below HC2.out HM2.below) H2.out (Kd.C_below HC3.out HM2.below) H3.out).mono ?_; rintro e w3 ⟨hb, hcase⟩; have hcase2 : ∃ vs vn, e = .returned (.tuple #[vs, vn, .nilIface]) ∧ kL.R 26 w3 w2.heap.size (fun _ => True) vs (II (turnO n out.1 out.2)) ∧ kL.R 26 w3 w2.heap.size (fun _ => True) vn (II (turnA n out.1 out.2).1) := (by rcases hcase with ⟨n', T', out', h1, h2, h3 | h3⟩ | ⟨h1, _⟩; (obtain ⟨rfl, rfl, rfl⟩ := turn_uniq HOK.out HCAN.out h1 h2; rw [turnA_fst]; exact h3.2); (obtain ⟨rfl, rfl, rfl⟩ := turn_uniq HOK.out HCAN.out h1 h2; exact absurd h3.1 (by have := HO2.out; omega)); (exact absurd ⟨n, T, HOK.out⟩ h1)); obtain ⟨vs, vn, rfl, hr2, hr3⟩ := hcase2; clear hcase; rw [← HOO.out] at hr2; rw [← HTA.out] at hr3; obtain ⟨As, cs, rfl⟩ := Kd.R_slice hr2; obtain ⟨An, cn, rfl⟩ := Kd.R_slice hr3; have HM3 := HM2.rows2 hb hr2 hr3; clear HM2 hb hr2 hr3)))
      have hc0 : w3.cell? ⟨g1, 0, none⟩ = some (.int .i64 base) := (HM3.cell (i := 2) rfl 0).1
      have hc1 : w3.cell? ⟨g1, 1, none⟩ = some (.int .i64 tracks) := (HM3.cell (i := 2) rfl 1).1
      have HM4 := HM3.grow (Below.refl _ _).drew
      clear HM3
      refine start_ (n := 14) (S := fun w' => w'.cell? ⟨g1, 0, none⟩ = some (.int .i64 base) ∧ w'.cell? ⟨g1, 1, none⟩ = some (.int .i64 tracks)) (ds := [12]) #[false, false, false, false, false, false, false, false, false, false, false, false, false, false] (by kernel_rfl) rfl rfl ⟨hc0, hc1⟩ (fun hHeld => ?_)
      generalize w3.drew = w4 at HM4 hHeld ⊢
      refine pure_ (i := 0) (N := some 20) (v := ?_) (a' := ?_) #[true, false, false, false, false, false, false, false, false, false, false, false, false, false] rfl rfl (by kernel_rfl) (fun _ _ _ h => h) (Or.inl ⟨by rfl, ?_⟩) ?_ ?_
      rotate_left
      · intro w'
        go_simp
        with_reducible rfl
      rotate_left
      · simp only [Act.put, List.setIfInBounds_toArray, List.set_cons_zero, List.set_cons_succ, i64_w, i32_w]
        rfl
      refine pure_ (i := 2) (N := some 22) (v := ?_) (a' := ?_) #[true, false, true, false, false, false, false, false, false, false, false, false, false, false] rfl rfl (by kernel_rfl) (fun _ _ _ h => h) (Or.inl ⟨by rfl, ?_⟩) ?_ ?_
      rotate_left
      · intro w'
        go_simp
        with_reducible rfl
      rotate_left
      · simp only [Act.put, List.setIfInBounds_toArray, List.set_cons_zero, List.set_cons_succ, i64_w, i32_w]
        rfl
      refine pure_ (i := 4) (N := some 24) (v := ?_) (a' := ?_) #[true, false, true, false, true, false, false, false, false, false, false, false, false, false] rfl rfl (by kernel_rfl) (fun _ _ _ h => h) (Or.inl ⟨by rfl, ?_⟩) ?_ ?_
      rotate_left
      · intro w'
        go_simp
        with_reducible rfl
      rotate_left
      · simp only [Act.put, List.setIfInBounds_toArray, List.set_cons_zero, List.set_cons_succ, i64_w, i32_w]
        rfl
      refine pure_ (i := 5) (N := some 25) (v := ?_) (a' := ?_) #[true, false, true, false, true, true, false, false, false, false, false, false, false, false] rfl rfl (by kernel_rfl) (fun _ _ _ h => h) (Or.inl ⟨by rfl, ?_⟩) ?_ ?_
      rotate_left
      · intro w'
        go_simp
        with_reducible rfl
      rotate_left
      · simp only [Act.put, List.setIfInBounds_toArray, List.set_cons_zero, List.set_cons_succ, i64_w, i32_w]
        rfl
      refine take_ (i := 1) (N := some 21) (v := ?_) (a' := ?_) #[true, true, true, false, true, true, false, false, false, false, false, false, false, false] rfl rfl (by kernel_rfl) (fun _ _ _ h => h) (Or.inl ⟨by rfl, ?_⟩) hHeld ?_ ?_
      rotate_left
      · rintro w' ⟨s0, s1⟩
        go_simp
        with_reducible rfl
      rotate_left
      · simp only [Act.put, List.setIfInBounds_toArray, List.set_cons_zero, List.set_cons_succ, i64_w, i32_w]
        rfl
      refine take_ (i := 3) (N := some 23) (v := ?_) (a' := ?_) #[true, true, true, true, true, true, false, false, false, false, false, false, false, false] rfl rfl (by kernel_rfl) (fun _ _ _ h => h) (Or.inl ⟨by rfl, ?_⟩) hHeld ?_ ?_
      rotate_left
      · rintro w' ⟨s0, s1⟩
        go_simp
        with_reducible rfl
      rotate_left
      · simp only [Act.put, List.setIfInBounds_toArray, List.set_cons_zero, List.set_cons_succ, i64_w, i32_w]
        rfl
      refine join_ (σ := (Tab × List Bool) × Value × Nat) 2 #[true, true, true, true, true, true, true, true, true, true, true, true, false, false] (fun s => [(26, s.2.1), (27, .tuple #[.agg #[.int .i64 0, .int .i64 0, .slice none 0 0, .slice none 0 0], .bool false]), (19, .tuple #[.agg #[.int .i64 0, .int .i64 0, .slice none 0 0, .slice none 0 0], .bool false]), (28, .agg #[.int .i64 0, .int .i64 0, .slice none 0 0, .slice none 0 0]), (29, .bool false), (7, .pointer (some ⟨s.2.2, 0, none⟩))]) (fun s w' => Go.Proofs.Fil.Can n (lof n TA 0) s.1 ∧ 80 < s.1.1.length ∧ Mem W.heap.size (fun _ => False) W w' [blk s.2.2 #[.int .i64 0, .int .i64 0, .slice none 0 0, .slice none 0 0] 25, blk g2 #[.int .i64 0, .int .i64 0, .slice none 0 0, .slice none 0 0] 25, blk g1 #[.int .i64 base, .int .i64 tracks, .slice A2 l2.length c2, .slice A3 l3.length c3] 25]) ?_ ?_
      rotate_left
      · intro hCont
        refine two_ (i := 6) (j := 11) (Ni := some 26) (Nj := some 7) #[true, true, true, true, true, true, true, false, false, false, false, false, false, false] #[true, true, true, true, true, true, false, false, false, false, false, true, false, false] rfl rfl rfl rfl (by kernel_rfl) (by decide) (by decide) (fun K hK => ?_) (fun K hK => ?_)
        · skip
          refine goes_ Try.func23 (by kernel_rfl) rfl #[.slice As (II O).length cs, .func (.func 24) #[] #[]] (by rfl) rfl rfl (by simp only [List.map_toArray, List.map_cons, List.map_nil]; rfl) ?_
          have hrs := HM4.two_ (i := 0) rfl
          refine (ends_calls As cs (II O) (.func (.func 24) #[] #[]) (fun z => z == 0) _ (Kd.R_reads' hrs.1).2.2 (by rw [II_len]; have := HOL.out; omega) (fun s _ => asked_zero _ s)).mono ?_
          rintro e w5 ⟨vE, rfl, hrE, hb⟩
          rw [zin_I, ← HEE.out] at hrE
          refine ⟨_, rfl, ?_⟩
          replace HM4 := HM4.row_ hb hrE
          clear hb hrE hrs
          refine hK.out _ _ ⟨(HM4.cell (i := 3) rfl 0).1, (HM4.cell (i := 3) rfl 1).1⟩ (fun hHeld => ?_)
          clear hK K
          refine norm_ (a' := ?_) ?_ ?_
          rotate_left
          · show Act.put _ (some 26) _ = _
            simp only [Act.put, List.setIfInBounds_toArray, List.set_cons_zero, List.set_cons_succ, i64_w, i32_w]
            rfl
          refine two_ (i := 7) (j := 11) (Ni := some 27) (Nj := some 7) #[true, true, true, true, true, true, true, true, false, false, false, false, false, false] #[true, true, true, true, true, true, true, false, false, false, false, true, false, false] rfl rfl rfl rfl (by kernel_rfl) (by decide) (by decide) (fun K hK => ?_) (fun K hK => ?_)
          · skip
            obtain ⟨AE, cE, eE, _, hCE⟩ := HM4.rowSlice (i := 0) rfl
            subst eE
            refine goes_ Try.func22 (by kernel_rfl) rfl #[.int .i64 base, .int .i64 tracks, .slice An (II TA.1).length cn, .slice AE TA.2.length cE] (by rfl) rfl rfl (by simp only [List.map_toArray, List.map_cons, List.map_nil]; rfl) ?_
            have hrs := HM4.two_ (i := 1) rfl
            refine (shrink_calls n TA.1 TA.2 HWFA.out (by have := HTAL.out; omega) (by omega) base tracks An cn AE cE _ (Kd.R_reads' hrs.2).2.2 hCE).mono ?_
            rintro e w6 ⟨m, hm, hcase, hb⟩
            have hc2 : 80 < m.1.length ∧ e = .returned (.tuple #[.agg #[.int .i64 0, .int .i64 0, .slice none 0 0, .slice none 0 0], .bool false]) := by
              rcases hcase with ⟨h, _⟩ | h
              · exact absurd ⟨m, hm, h⟩ H80.out
              · exact h
            obtain ⟨hm80, rfl⟩ := hc2
            refine ⟨_, rfl, ?_⟩
            replace HM4 := HM4.grow hb
            clear hb hcase hrs hCE
            refine hK.out _ _ ⟨(HM4.cell (i := 3) rfl 0).1, (HM4.cell (i := 3) rfl 1).1⟩ (fun hHeld => ?_)
            clear hK K
            refine norm_ (a' := ?_) ?_ ?_
            rotate_left
            · show Act.put _ (some 27) _ = _
              simp only [Act.put, List.setIfInBounds_toArray, List.set_cons_zero, List.set_cons_succ, i64_w, i32_w]
              rfl
            refine pure_ (i := 8) (N := some 19) (v := ?_) (a' := ?_) #[true, true, true, true, true, true, true, true, true, false, false, false, false, false] rfl rfl (by kernel_rfl) (fun _ _ _ h => h) (Or.inl ⟨by rfl, ?_⟩) ?_ ?_
            rotate_left
            · intro w'
              go_simp
              with_reducible rfl
            rotate_left
            · simp only [Act.put, List.setIfInBounds_toArray, List.set_cons_zero, List.set_cons_succ, i64_w, i32_w]
              rfl
            refine pure_ (i := 9) (N := some 28) (v := ?_) (a' := ?_) #[true, true, true, true, true, true, true, true, true, true, false, false, false, false] rfl rfl (by kernel_rfl) (fun _ _ _ h => h) (Or.inl ⟨by rfl, ?_⟩) ?_ ?_
            rotate_left
            · intro w'
              go_simp
              with_reducible rfl
            rotate_left
            · simp only [Act.put, List.setIfInBounds_toArray, List.set_cons_zero, List.set_cons_succ, i64_w, i32_w]
              rfl
            refine pure_ (i := 10) (N := some 29) (v := ?_) (a' := ?_) #[true, true, true, true, true, true, true, true, true, true, true, false, false, false] rfl rfl (by kernel_rfl) (fun _ _ _ h => h) (Or.inl ⟨by rfl, ?_⟩) ?_ ?_
            rotate_left
            · intro w'
              go_simp
              with_reducible rfl
            rotate_left
            · simp only [Act.put, List.setIfInBounds_toArray, List.set_cons_zero, List.set_cons_succ, i64_w, i32_w]
              rfl
            refine one_ (i := 11) (N := some 7) #[true, true, true, true, true, true, true, true, true, true, true, true, false, false] rfl rfl (by kernel_rfl) (by decide) (fun K hK => ?_)
            refine HM4.boxStep (by rfl) (N := 7) rfl (cs := #[.int .i64 0, .int .i64 0, .slice none 0 0, .slice none 0 0]) (t := 25) ?hr ?_
            (case hr => first | (go_simp; done) | (go_simp; rfl))
            intro g7 w7 HM5
            clear HM4
            have HM4 := HM5
            clear HM5
            refine hK.out _ _ ⟨(HM4.cell (i := 4) rfl 0).1, (HM4.cell (i := 4) rfl 1).1⟩ (fun hHeld => ?_)
            clear hK K
            refine norm_ (a' := ?_) ?_ ?_
            rotate_left
            · show Act.put _ (some 7) _ = _
              simp only [Act.put, List.setIfInBounds_toArray, List.set_cons_zero, List.set_cons_succ, i64_w, i32_w]
              rfl
            exact norm_ (by simp only [putAll, Act.put, List.setIfInBounds_toArray, List.set_cons_zero, List.set_cons_succ]) (hCont ⟨m, (.slice AE TA.2.length cE), g7⟩ _ ⟨hm, hm80, (((((HM4.drop 1).drop 1).front 2 rfl).front 2 rfl).front 2 rfl)⟩)
          · skip
            refine HM4.boxStep (by rfl) (N := 7) rfl (cs := #[.int .i64 0, .int .i64 0, .slice none 0 0, .slice none 0 0]) (t := 25) ?hr ?_
            (case hr => first | (go_simp; done) | (go_simp; rfl))
            intro g7 w7 HM5
            clear HM4
            have HM4 := HM5
            clear HM5
            refine hK.out _ _ ⟨(HM4.cell (i := 4) rfl 0).1, (HM4.cell (i := 4) rfl 1).1⟩ (fun hHeld => ?_)
            clear hK K
            refine norm_ (a' := ?_) ?_ ?_
            rotate_left
            · show Act.put _ (some 7) _ = _
              simp only [Act.put, List.setIfInBounds_toArray, List.set_cons_zero, List.set_cons_succ, i64_w, i32_w]
              rfl
            refine one_ (i := 7) (N := some 27) #[true, true, true, true, true, true, true, true, false, false, false, true, false, false] rfl rfl (by kernel_rfl) (by decide) (fun K hK => ?_)
            obtain ⟨AE, cE, eE, _, hCE⟩ := HM4.rowSlice (i := 1) rfl
            subst eE
            refine goes_ Try.func22 (by kernel_rfl) rfl #[.int .i64 base, .int .i64 tracks, .slice An (II TA.1).length cn, .slice AE TA.2.length cE] (by rfl) rfl rfl (by simp only [List.map_toArray, List.map_cons, List.map_nil]; rfl) ?_
            have hrs := HM4.two_ (i := 2) rfl
            refine (shrink_calls n TA.1 TA.2 HWFA.out (by have := HTAL.out; omega) (by omega) base tracks An cn AE cE _ (Kd.R_reads' hrs.2).2.2 hCE).mono ?_
            rintro e w6 ⟨m, hm, hcase, hb⟩
            have hc2 : 80 < m.1.length ∧ e = .returned (.tuple #[.agg #[.int .i64 0, .int .i64 0, .slice none 0 0, .slice none 0 0], .bool false]) := by
              rcases hcase with ⟨h, _⟩ | h
              · exact absurd ⟨m, hm, h⟩ H80.out
              · exact h
            obtain ⟨hm80, rfl⟩ := hc2
            refine ⟨_, rfl, ?_⟩
            replace HM4 := HM4.grow hb
            clear hb hcase hrs hCE
            refine hK.out _ _ ⟨(HM4.cell (i := 4) rfl 0).1, (HM4.cell (i := 4) rfl 1).1⟩ (fun hHeld => ?_)
            clear hK K
            refine norm_ (a' := ?_) ?_ ?_
            rotate_left
            · show Act.put _ (some 27) _ = _
              simp only [Act.put, List.setIfInBounds_toArray, List.set_cons_zero, List.set_cons_succ, i64_w, i32_w]
              rfl
            refine pure_ (i := 8) (N := some 19) (v := ?_) (a' := ?_) #[true, true, true, true, true, true, true, true, true, false, false, true, false, false] rfl rfl (by kernel_rfl) (fun _ _ _ h => h) (Or.inl ⟨by rfl, ?_⟩) ?_ ?_
            rotate_left
            · intro w'
              go_simp
              with_reducible rfl
            rotate_left
            · simp only [Act.put, List.setIfInBounds_toArray, List.set_cons_zero, List.set_cons_succ, i64_w, i32_w]
              rfl
            refine pure_ (i := 9) (N := some 28) (v := ?_) (a' := ?_) #[true, true, true, true, true, true, true, true, true, true, false, true, false, false] rfl rfl (by kernel_rfl) (fun _ _ _ h => h) (Or.inl ⟨by rfl, ?_⟩) ?_ ?_
            rotate_left
            · intro w'
              go_simp
              with_reducible rfl
            rotate_left
            · simp only [Act.put, List.setIfInBounds_toArray, List.set_cons_zero, List.set_cons_succ, i64_w, i32_w]
              rfl
            refine pure_ (i := 10) (N := some 29) (v := ?_) (a' := ?_) #[true, true, true, true, true, true, true, true, true, true, true, true, false, false] rfl rfl (by kernel_rfl) (fun _ _ _ h => h) (Or.inl ⟨by rfl, ?_⟩) ?_ ?_
            rotate_left
            · intro w'
              go_simp
              with_reducible rfl
            rotate_left
            · simp only [Act.put, List.setIfInBounds_toArray, List.set_cons_zero, List.set_cons_succ, i64_w, i32_w]
              rfl
            exact norm_ (by simp only [putAll, Act.put, List.setIfInBounds_toArray, List.set_cons_zero, List.set_cons_succ]) (hCont ⟨m, (.slice AE TA.2.length cE), g7⟩ _ ⟨hm, hm80, (((((HM4.drop 1).drop 1).front 2 rfl).front 2 rfl).front 2 rfl)⟩)
        · skip
          refine HM4.boxStep (by rfl) (N := 7) rfl (cs := #[.int .i64 0, .int .i64 0, .slice none 0 0, .slice none 0 0]) (t := 25) ?hr ?_
          (case hr => first | (go_simp; done) | (go_simp; rfl))
          intro g7 w7 HM5
          clear HM4
          have HM4 := HM5
          clear HM5
          refine hK.out _ _ ⟨(HM4.cell (i := 3) rfl 0).1, (HM4.cell (i := 3) rfl 1).1⟩ (fun hHeld => ?_)
          clear hK K
          refine norm_ (a' := ?_) ?_ ?_
          rotate_left
          · show Act.put _ (some 7) _ = _
            simp only [Act.put, List.setIfInBounds_toArray, List.set_cons_zero, List.set_cons_succ, i64_w, i32_w]
            rfl
          refine one_ (i := 6) (N := some 26) #[true, true, true, true, true, true, true, false, false, false, false, true, false, false] rfl rfl (by kernel_rfl) (by decide) (fun K hK => ?_)
          refine goes_ Try.func23 (by kernel_rfl) rfl #[.slice As (II O).length cs, .func (.func 24) #[] #[]] (by rfl) rfl rfl (by simp only [List.map_toArray, List.map_cons, List.map_nil]; rfl) ?_
          have hrs := HM4.two_ (i := 1) rfl
          refine (ends_calls As cs (II O) (.func (.func 24) #[] #[]) (fun z => z == 0) _ (Kd.R_reads' hrs.1).2.2 (by rw [II_len]; have := HOL.out; omega) (fun s _ => asked_zero _ s)).mono ?_
          rintro e w5 ⟨vE, rfl, hrE, hb⟩
          rw [zin_I, ← HEE.out] at hrE
          refine ⟨_, rfl, ?_⟩
          replace HM4 := HM4.row_ hb hrE
          clear hb hrE hrs
          refine hK.out _ _ ⟨(HM4.cell (i := 4) rfl 0).1, (HM4.cell (i := 4) rfl 1).1⟩ (fun hHeld => ?_)
          clear hK K
          refine norm_ (a' := ?_) ?_ ?_
          rotate_left
          · show Act.put _ (some 26) _ = _
            simp only [Act.put, List.setIfInBounds_toArray, List.set_cons_zero, List.set_cons_succ, i64_w, i32_w]
            rfl
          refine one_ (i := 7) (N := some 27) #[true, true, true, true, true, true, true, true, false, false, false, true, false, false] rfl rfl (by kernel_rfl) (by decide) (fun K hK => ?_)
          obtain ⟨AE, cE, eE, _, hCE⟩ := HM4.rowSlice (i := 0) rfl
          subst eE
          refine goes_ Try.func22 (by kernel_rfl) rfl #[.int .i64 base, .int .i64 tracks, .slice An (II TA.1).length cn, .slice AE TA.2.length cE] (by rfl) rfl rfl (by simp only [List.map_toArray, List.map_cons, List.map_nil]; rfl) ?_
          have hrs := HM4.two_ (i := 2) rfl
          refine (shrink_calls n TA.1 TA.2 HWFA.out (by have := HTAL.out; omega) (by omega) base tracks An cn AE cE _ (Kd.R_reads' hrs.2).2.2 hCE).mono ?_
          rintro e w6 ⟨m, hm, hcase, hb⟩
          have hc2 : 80 < m.1.length ∧ e = .returned (.tuple #[.agg #[.int .i64 0, .int .i64 0, .slice none 0 0, .slice none 0 0], .bool false]) := by
            rcases hcase with ⟨h, _⟩ | h
            · exact absurd ⟨m, hm, h⟩ H80.out
            · exact h
          obtain ⟨hm80, rfl⟩ := hc2
          refine ⟨_, rfl, ?_⟩
          replace HM4 := HM4.grow hb
          clear hb hcase hrs hCE
          refine hK.out _ _ ⟨(HM4.cell (i := 4) rfl 0).1, (HM4.cell (i := 4) rfl 1).1⟩ (fun hHeld => ?_)
          clear hK K
          refine norm_ (a' := ?_) ?_ ?_
          rotate_left
          · show Act.put _ (some 27) _ = _
            simp only [Act.put, List.setIfInBounds_toArray, List.set_cons_zero, List.set_cons_succ, i64_w, i32_w]
            rfl
          refine pure_ (i := 8) (N := some 19) (v := ?_) (a' := ?_) #[true, true, true, true, true, true, true, true, true, false, false, true, false, false] rfl rfl (by kernel_rfl) (fun _ _ _ h => h) (Or.inl ⟨by rfl, ?_⟩) ?_ ?_
          rotate_left
          · intro w'
            go_simp
            with_reducible rfl
          rotate_left
          · simp only [Act.put, List.setIfInBounds_toArray, List.set_cons_zero, List.set_cons_succ, i64_w, i32_w]
            rfl
          refine pure_ (i := 9) (N := some 28) (v := ?_) (a' := ?_) #[true, true, true, true, true, true, true, true, true, true, false, true, false, false] rfl rfl (by kernel_rfl) (fun _ _ _ h => h) (Or.inl ⟨by rfl, ?_⟩) ?_ ?_
          rotate_left
          · intro w'
            go_simp
            with_reducible rfl
          rotate_left
          · simp only [Act.put, List.setIfInBounds_toArray, List.set_cons_zero, List.set_cons_succ, i64_w, i32_w]
            rfl
          refine pure_ (i := 10) (N := some 29) (v := ?_) (a' := ?_) #[true, true, true, true, true, true, true, true, true, true, true, true, false, false] rfl rfl (by kernel_rfl) (fun _ _ _ h => h) (Or.inl ⟨by rfl, ?_⟩) ?_ ?_
          rotate_left
          · intro w'
            go_simp
            with_reducible rfl
          rotate_left
          · simp only [Act.put, List.setIfInBounds_toArray, List.set_cons_zero, List.set_cons_succ, i64_w, i32_w]
            rfl
          exact norm_ (by simp only [putAll, Act.put, List.setIfInBounds_toArray, List.set_cons_zero, List.set_cons_succ]) (hCont ⟨m, (.slice AE TA.2.length cE), g7⟩ _ ⟨hm, hm80, (((((HM4.drop 0).drop 1).front 2 rfl).front 2 rfl).front 2 rfl)⟩)
      rintro ⟨m, vE, g7⟩ w' ⟨hm, hm80, HM7⟩
      have HMM := Aside0.mk hm
      have HM80 := Aside0.mk hm80
      clear hm hm80
      have hHeld : w'.cell? ⟨g1, 0, none⟩ = some (.int .i64 base) ∧ w'.cell? ⟨g1, 1, none⟩ = some (.int .i64 tracks) := ⟨(HM7.cell (i := 2) rfl 0).1, (HM7.cell (i := 2) rfl 1).1⟩
      refine norm_ (a' := ?_) ?_ ?_
      rotate_left
      · simp only [putAll, Act.put, List.setIfInBounds_toArray, List.set_cons_zero, List.set_cons_succ]
        rfl
      refine last_ (i := 12) (N := none) #[true, true, true, true, true, true, true, true, true, true, true, true, true, false] rfl rfl (by kernel_rfl) (by decide) (fun K hK => ?_)
      refine HM7.storeAllStep 0 rfl (by rfl) 25 (.tmp 7) (.tmp 28) rfl (us := #[.int .i64 0, .int .i64 0, .slice none 0 0, .slice none 0 0]) rfl rfl (one4 rfl rfl rfl rfl) (by exact infoA4) rfl rfl ?_
      intro w8 HM8
      clear HM7
      refine hK.out _ _ ?_
      clear hK K
      refine pure_ (i := 13) (N := some 8) (v := ?_) (a' := ?_) #[true, true, true, true, true, true, true, true, true, true, true, true, true, true] rfl rfl (by kernel_rfl) (fun _ _ _ h => h) (Or.inl ⟨by rfl, ?_⟩) ?_ ?_
      rotate_left
      · intro w'
        go_simp
        with_reducible rfl
      rotate_left
      · simp only [Act.put, List.setIfInBounds_toArray, List.set_cons_zero, List.set_cons_succ, i64_w, i32_w]
        rfl
      refine done_ (by kernel_rfl) ?_
      go_wp2_with (first
        | ((with_reducible refine gate_store (t := 25) (p := 2) rfl ?_); (refine HM8.storeAll 1 rfl rfl 25 (.tmp 2) _ rfl (us := #[.int .i64 0, .int .i64 0, .slice none 0 0, .slice none 0 0]) rfl rfl (one4 rfl rfl rfl rfl) (by exact infoA4) rfl rfl ?_; intro w9 HM9; clear HM8)))
      refine bodyPost_ret (results_list (rs := [.cell 2 25, .tmp 3]) rfl (by simp) (.cell g2 25 _ (0, 0) _ rfl (HM9.blkAt (i := 1) rfl).1 Try.underlying25 rfl infoA4 (.tmp .nil))) (by rfl) ?_
      exact ⟨HM9.below, .inr ⟨3, .inr (.inr (.inl rfl)), rfl, .inr ⟨rfl, n, T, out, HOK.out, HCAN.out, .inr ⟨HO2.out, m, (by rw [← HTA.out]; exact HMM.out), HM80.out⟩⟩⟩⟩
  · have HNO := Aside0.mk hno
    clear hno
    go_enter Try.func8, Try.ntmps8
    go_wp2_with (first
      | ((with_reducible refine gate_dst (N := 1) rfl ?_); refine box_event ?hg (N := 1) ?hd (cs := #[.int .i64 base, .int .i64 tracks, .slice A2 l2.length c2, .slice A3 l3.length c3]) (t := 25) ?hr ?_; (case hd => rfl); (case hg => rfl); (case hr => first | (go_simp; done) | (go_simp; rfl)); intro g1 hg1 w1 hb1 hbel; have HM1 := HM.blk_ hg1 hb1 hbel; clear HM hg1 hb1 hbel)
      | ((with_reducible refine gate_dst (N := 2) rfl ?_); refine box_event ?hg (N := 2) ?hd (cs := #[.int .i64 0, .int .i64 0, .slice none 0 0, .slice none 0 0]) (t := 25) ?hr ?_; (case hd => rfl); (case hg => rfl); (case hr => first | (go_simp; done) | (go_simp; rfl)); intro g2 hg2 w2 hb2 hbel; have HM2 := HM1.blk_ hg2 hb2 hbel; clear HM1 hg2 hb2 hbel)
      | ((with_reducible refine gate_dst (N := 10) rfl ?_); (refine HM2.loadAll 1 rfl 25 (.tmp 1) rfl _ rfl Try.underlying25 rfl (by exact infoA4) rfl ?_))
      | (go_at_call 21; (refine (turned_calls base tracks A2 c2 l2 A3 c3 l3 _ (Kd.C_below HC2.out HM2.below) H2.out (Kd.C_below HC3.out HM2.below) H3.out).mono ?_; rintro e w3 ⟨hb, hcase⟩; have hcase2 : ∃ x, (x = 1 ∨ x = 2 ∨ x = 3 ∨ x = 4) ∧ e = .returned (.tuple #[.slice none 0 0, .slice none 0 0, errW (some x)]) ∧ ((¬ ∃ n T, Ok base tracks l2 l3 n T) ∨ (x = 3 ∧ ∃ n T out, Ok base tracks l2 l3 n T ∧ Go.Proofs.Fil.Can n (lof n (T, l3) 0) out ∧ 2000 < (turnO n out.1 out.2).length)) := (by rcases hcase with ⟨n, T, out, h1, h2, h3 | h3⟩ | ⟨h1, x, hx, h2⟩; (exact absurd ⟨n, T, out, h1, h2, h3.1⟩ HNO.out); (exact ⟨3, .inr (.inr (.inl rfl)), h3.2, .inr ⟨rfl, n, T, out, h1, h2, h3.1⟩⟩); (exact ⟨x, hx, h2, .inl h1⟩)); obtain ⟨x, hx, rfl, hwhy⟩ := hcase2; have HX := Aside0.mk hx; have HWHY := Aside0.mk hwhy; clear hx hwhy hcase; have HM3 := HM2.grow hb; clear HM2 hb; simp only [errW_some]))
      | ((with_reducible refine gate_store (t := 25) (p := 2) rfl ?_); (refine HM3.storeAll 0 rfl rfl 25 (.tmp 2) _ rfl (us := #[.int .i64 0, .int .i64 0, .slice none 0 0, .slice none 0 0]) rfl rfl (one4 rfl rfl rfl rfl) (by exact infoA4) rfl rfl ?_; intro w4 HM4; clear HM3)))
    refine bodyPost_ret (results_list (rs := [.cell 2 25, .tmp 3]) rfl (by simp) (.cell g2 25 _ (0, 0) _ rfl (HM4.blkAt (i := 0) rfl).1 Try.underlying25 rfl infoA4 (.tmp .nil))) (by rfl) ?_
    refine ⟨HM4.below, .inr ⟨x, HX.out, rfl, ?_⟩⟩
    rcases HWHY.out with h1 | ⟨h1, n, T, out, h2, h3, h4⟩
    · exact .inl h1
    · exact .inr ⟨h1, n, T, out, h2, h3, .inl h4⟩
end Go.Proofs.Ytlffephcbfdknaa.Wk
