/- Several texts in one: Walk by hand: some.left. -/
import Derived.Test.YtlffephcbfdknaaK9
import Derived.Test.YtlffephcbfdknaaKWk4
import Derived.Test.YtlffephcbfdknaaK5
import Derived.Test.YtlffephcbfdknaaKIns
import Derived.Test.YtlffephcbfdknaaK2
/- Walk by hand: some.left. -/
set_option linter.unusedVariables false
set_option linter.unusedSimpArgs false
namespace Go.Proofs.Ytlffephcbfdknaa.Wk
open Go.RowKit Go.Proofs.YtlffephcbfdknaaW.PrintWords Go.Proofs.YtlffephcbfdknaaW.PrintMore Go.Proofs.YtlffephcbfdknaaW.PrintLast Go.Proofs.Sep Go.Proofs.Fil Go.Proofs.Ytlffephcbfdknaa.Chk Go.Proofs.Ytlffephcbfdknaa.PSomeTakes Go.Proofs.Ytlffephcbfdknaa.Tbl

/-- letters of a track less; what each is read as; the sets -/
def sN (base tracks : Int) : Nat := radix base ^ (tracks.toNat - 1)
def sW (base tracks : Int) (tr : Nat) (l : Nat) : List Nat := wtab (radix base) tracks.toNat tr l
def sO (base tracks : Int) (tr : Nat) (T : Tab) : List (List Nat) := someO (sN base tracks) T (sW base tracks tr) (sW base tracks tr 0)
/-- What left answers. -/
def LeftPost (base tracks : Int) (l2 : List (List Int)) (l3 : List Bool) (track : Int) (B : Nat) (e : Ending) (w' : World) : Prop :=
  (∃ n T out tr, Ok base tracks l2 l3 n T ∧ Go.Proofs.Fil.Can n (lof n (T, l3) 0) out ∧ track = ((tr : Nat) : Int) ∧ track < tracks ∧ (sO base tracks tr out.1).length ≤ 2000 ∧
    ∃ va vb vs vn, e = .returned (.tuple #[.agg #[.int .i64 base, .int .i64 tracks, va, vb], vs, vn, .nilIface]) ∧ kL.R 26 w' B (fun _ => True) va (II out.1) ∧ kB.R 4 w' B (fun _ => True) vb out.2 ∧
      kL.R 26 w' B (fun _ => True) vs (II (sO base tracks tr out.1)) ∧ kL.R 26 w' B (fun _ => True) vn (II (rowsTo (sN base tracks) (stepS out.1 (sW base tracks tr)) (sO base tracks tr out.1) (sO base tracks tr out.1).length))) ∨
  (∃ (x b' t' : Int) (A' : Option Addr) (n' c' : Nat) (A'' : Option Addr) (n'' c'' : Nat), (x = 1 ∨ x = 2 ∨ x = 3 ∨ x = 4) ∧ e = .returned (.tuple #[.agg #[.int .i64 b', .int .i64 t', .slice A' n' c', .slice A'' n'' c''], .slice none 0 0, .slice none 0 0, errW (some x)]) ∧
    ((¬ ∃ n T, Ok base tracks l2 l3 n T) ∨ (x = 1 ∧ (track < 0 ∨ tracks ≤ track) ∧ ∃ n T, Ok base tracks l2 l3 n T) ∨
      (x = 3 ∧ ∃ n T out tr, Ok base tracks l2 l3 n T ∧ Go.Proofs.Fil.Can n (lof n (T, l3) 0) out ∧ track = ((tr : Nat) : Int) ∧ track < tracks ∧ 2000 < (sO base tracks tr out.1).length)))

theorem can_uniq {base tracks : Int} {l2 : List (List Int)} {l3 : List Bool} {n n' : Nat} {T T' : Tab} {out out' : Tab × List Bool} (h1 : Ok base tracks l2 l3 n T) (h2 : Go.Proofs.Fil.Can n (lof n (T, l3) 0) out) (h1' : Ok base tracks l2 l3 n' T') (h2' : Go.Proofs.Fil.Can n' (lof n' (T', l3) 0) out') : n = n' ∧ T = T' ∧ out = out' := by
  obtain ⟨rfl, rfl⟩ := Ok.unique h1 h1'
  exact ⟨rfl, rfl, h2.unique h2'⟩
/-- what has been gathered when l letters and x digits are done -/
def wpart (wt : Nat → List Nat) (l x j : Nat) : List Nat := if j < l then wt j else if j = l then (wt l).take x else []
theorem wpart_next {wt : Nat → List Nat} {l k : Nat} (hk : (wt l).length = k) : (fun j => wpart wt l k j) = fun j => wpart wt (l + 1) 0 j := by
  funext j
  unfold wpart
  by_cases h1 : j < l
  · rw [if_pos h1, if_pos (by omega)]
  · rw [if_neg h1]
    by_cases h2 : j = l
    · subst h2
      rw [if_pos rfl, if_pos (by omega), List.take_of_length_le (by omega)]
    · rw [if_neg h2, if_neg (by omega)]
      split <;> simp

theorem radix_le (base : Int) : radix base ≤ 6 := by
  unfold radix
  split
  · omega
  · split <;> omega
theorem radix_f {base : Int} (h1 : 1 ≤ base) (h6 : base ≤ 6) : digit_Radix.f base = some ((radix base : Nat) : Int) := by
  unfold digit_Radix.f radix
  by_cases e : base = 1
  · rw [if_pos e, if_pos e]; rfl
  · rw [if_neg e, if_neg e, if_pos (by omega), if_pos (by omega), if_pos (by omega)]
    congr 1
    omega
theorem many_f {base tracks : Int} {n : Nat} (h : manyN base tracks = some n) : letter_Many.f 10 base tracks = some ((n : Int), none) := by
  obtain ⟨r, hr, hc⟩ := many_spec base tracks
  rcases hc with ⟨m, hm, rfl⟩ | ⟨hm, _⟩
  · rw [h] at hm
    injection hm with hm
    subst hm
    exact hr
  · rw [h] at hm
    cases hm
theorem rows_congr {α : Type} {d : Kd α} {e m : Nat} {f f' : Nat → Value} {g g' : Nat → List α} (h : ∀ j, j < m → f j = f' j ∧ g j = g' j) : rows d e m f g = rows d e m f' g' := by
  unfold rows
  refine List.map_congr_left (fun j hj => ?_)
  obtain ⟨h1, h2⟩ := h j (List.mem_range.1 hj)
  rw [h1, h2]
theorem infoS : (Try.prog.info? 26).map (fun i => (i.zero, i.size, i.bytes)) = some (some (.slice none 0 0), 1, 24) := infoL
theorem infoL1 : (Try.prog.info? 26).map (·.size) = some 1 := by kernel_rfl
theorem repS (n j : Nat) : encS ((List.replicate n zS).getD j zS) = nilS := by
  rw [List.getD_eq_getElem?_getD, List.getElem?_replicate]
  split <;> rfl

set_option maxRecDepth 100000 in
set_option maxHeartbeats 4000000 in
theorem left_calls (base tracks : Int) (A2 : Option Addr) (c2 : Nat) (l2 : List (List Int)) (A3 : Option Addr) (c3 : Nat) (l3 : List Bool) (track : Int) (W : World) (hC2 : kL.C W A2 l2.length l2) (h2 : l2.length ≤ c2) (hC3 : kB.C W A3 l3.length l3) (h3 : l3.length ≤ c3) :
    Calls Try.prog 28 #[.agg #[.int .i64 base, .int .i64 tracks, .slice A2 l2.length c2, .slice A3 l3.length c3], .int .i64 track] W fun e w' => Below W.heap.size W w' ∧
      LeftPost base tracks l2 l3 track W.heap.size e w' := by
  have HC2 := Aside0.mk hC2
  have HC3 := Aside0.mk hC3
  have H2 := Aside0.mk h2
  have H3 := Aside0.mk h3
  clear hC2 hC3 h2 h3
  have HM := Mem.start W
  by_cases hex : ∃ n T, Ok base tracks l2 l3 n T
  · obtain ⟨n, T, hok⟩ := hex
    have HOK := Aside0.mk hok
    have hn := manyN_le hok.many
    obtain ⟨hb1, hb6, ht0, ht5, _, hk0⟩ := many_range hok.many
    clear hok
    by_cases htr : 0 ≤ track ∧ track < tracks
    · obtain ⟨tr, rfl⟩ : ∃ tr : Nat, track = tr := ⟨track.toNat, by omega⟩
      have hneg : ¬ ((tr : Nat) : Int) < 0 := by omega
      have htl : ((tr : Nat) : Int) < tracks := htr.2
      clear htr
      have hless := many_less HOK.out.many (by omega : 0 < tracks)
      have hn36 := manyN_le hless
      have hk6 := radix_le base
      have hmk := many_f hless
      have hrk := radix_f hb1 hb6
      obtain ⟨n', hn'⟩ : ∃ n', n' = sN base tracks := ⟨_, rfl⟩
      obtain ⟨wt, hwt⟩ : ∃ wt, wt = sW base tracks tr := ⟨_, rfl⟩
      obtain ⟨dg, hdg⟩ : ∃ dg : Nat → List Nat, dg = digs (radix base) (tracks.toNat - 1) := ⟨_, rfl⟩
      have hput : ∀ l, l < n' → Go.Proofs.Ytlffephcbfdknaa.PSomeTakes.letter_Unpack.f 40 base (tracks - 1) l = some (I (dg l), none) ∧ (dg l).length = tracks.toNat - 1 ∧ ∀ x, x < radix base → Go.Proofs.Ytlffephcbfdknaa.PSomeTakes.letter_Pack.f 40 base ((I (dg l)).take tr ++ (x : Int) :: (I (dg l)).drop tr) = some ((((wt l).getD x 0 : Nat) : Int), none) := by
        intro l hl
        rw [hn'] at hl
        obtain ⟨p1, p2, p3⟩ := put_in HOK.out.many (t := tr) (l := l) htl hl
        subst hdg
        refine ⟨p1, p2, fun x hx => ?_⟩
        have p4 := (p3 x hx).1
        unfold insI at p4
        rw [p4, hwt]
        unfold sW wtab
        rw [getD_at (by simpa using hx)]
        simp
      have hwl : ∀ l, (wt l).length = radix base := fun l => by rw [hwt]; exact wtab_len _ _ _ _
      have hwn : ∀ l, l < n' → ∀ k ∈ wt l, k < n := by rw [hwt, hn']; exact wtab_lt HOK.out.many htl
      rw [show radix base ^ (tracks.toNat - 1) = n' from hn'.symm] at hn36 hmk
      obtain ⟨k0, hk0e⟩ : ∃ k0, k0 = radix base := ⟨_, rfl⟩
      rw [← hk0e] at hk6 hrk hput hwl hk0
      have HPUT := Aside0.mk hput
      have HWL := Aside0.mk hwl
      have HWN := Aside0.mk hwn
      have HMK := Aside0.mk hmk
      have HRK := Aside0.mk hrk
      have HN' := Aside0.mk hn'
      have HWT := Aside0.mk hwt
      have HK0 := Aside0.mk hk0e
      clear hput hwl hwn hmk hrk hless hn' hwt hdg hk0e
      have htT : (tracks.toNat : Int) = tracks := Int.toNat_of_nonneg ht0
      have HTT := Aside0.mk htT
      clear htT
      go_enter Try.func28, Try.ntmps28
      go_upto_block 0 with (first
        | ((with_reducible refine gate_dst (N := 2) rfl ?_); refine box_event ?hg (N := 2) ?hd (cs := #[.int .i64 base, .int .i64 tracks, .slice A2 l2.length c2, .slice A3 l3.length c3]) (t := 25) ?hr ?_; (case hd => rfl); (case hg => rfl); (case hr => first | (go_simp; done) | (go_simp; rfl)); intro g2 hg1 w1 hb hbel; have HM1 := HM.blk_ hg1 hb hbel; clear HM hg1 hb hbel)
        | ((with_reducible refine gate_dst (N := 4) rfl ?_); refine box_event ?hg (N := 4) ?hd (cs := #[.int .i64 0, .int .i64 0, .slice none 0 0, .slice none 0 0]) (t := 25) ?hr ?_; (case hd => rfl); (case hg => rfl); (case hr => first | (go_simp; done) | (go_simp; rfl)); intro g4 hg2 w2 hb hbel; have HM2 := HM1.blk_ hg2 hb hbel; clear HM1 hg2 hb hbel)
        | ((with_reducible refine gate_dst (N := 19) rfl ?_); (refine HM2.loadAll 1 rfl 25 (.tmp 2) rfl _ rfl Try.underlying25 rfl (by exact infoA4) rfl ?_))
        | (go_at_call 10; (refine (least_calls base tracks A2 c2 l2 A3 c3 l3 _ (Kd.C_below HC2.out HM2.below) H2.out (Kd.C_below HC3.out HM2.below) H3.out).mono ?_; rintro e w3 ⟨hb, hcase⟩; rcases hcase with ⟨n2, T2, out, v2, v3, hok2, hcan, rfl, hr2, hr3⟩ | ⟨hno, _⟩; rotate_left; (exact absurd ⟨n, T, HOK.out⟩ hno); obtain ⟨rfl, rfl⟩ := Ok.unique HOK.out hok2; have hle := can_le hok2.wf hcan; have h80 := hok2.small; have HWF := Aside0.mk hcan.wf; have HCAN := Aside0.mk hcan; obtain ⟨T', ends'⟩ := out; have hT80 : T'.length ≤ 80 := Nat.le_trans hle h80; obtain ⟨Ao2, co2, rfl⟩ := Kd.R_slice hr2; obtain ⟨Ao3, co3, rfl⟩ := Kd.R_slice hr3; have HM3 := HM2.rows2 hb hr2 hr3; rw [II_len] at HM3 ⊢; clear HM2 hb hr2 hr3 hok2 hcan hle h80))
        | ((with_reducible refine gate_store (t := 25) (p := 4) rfl ?_); (refine HM3.storeAll 1 rfl rfl 25 (.tmp 4) _ rfl (us := #[.int .i64 base, .int .i64 tracks, .slice Ao2 T'.length co2, .slice Ao3 ends'.length co3]) rfl rfl (one4 rfl rfl rfl rfl) (by exact infoA4) rfl rfl ?_; intro w4 HM4; clear HM3; have hc0 : w4.cell? ⟨g2, 0, none⟩ = some (.int .i64 base) := (HM4.cell (i := 2) rfl 0).1; have hc1 : w4.cell? ⟨g2, 1, none⟩ = some (.int .i64 tracks) := (HM4.cell (i := 2) rfl 1).1))
        | (go_at_call 38; (refine (letter_Many.calls 10 base (tracks - 1) n' none _ HMK.out).mono ?_; rintro e w5 ⟨rfl, hb⟩; have HM5 := HM4.grow hb.below; clear HM4 hb hc0 hc1; simp only [errW_none]))
        | ((with_reducible refine gate_dst (N := 47) rfl ?_); (refine HM5.make kS 26 rfl (N := 47) rfl 22 _ _ rfl (n' : Int) rfl rfl Try.underlying22 (.slice none 0 0) 24 infoS rfl (by decide) (by decide) zS rfl (by omega) (by rw [Int.toNat_natCast]; omega) ?_; intro v47 w6 HM6; clear HM5; rw [Int.toNat_natCast] at HM6; obtain ⟨gW, capW, eW, hcW⟩ := HM6.rowForm (i := 0) rfl (by rw [List.length_replicate]; omega); subst eW; rw [List.length_replicate] at HM6 hcW ⊢))
        | ((with_reducible refine gate_dst (N := 10) rfl ?_); refine box_event ?hg (N := 10) ?hd (cs := #[.slice none 0 0]) (t := 22) ?hr ?_; (case hd => rfl); (case hg => rfl); (case hr => first | (go_simp; done) | (go_simp; rfl)); intro g10 hg3 w7 hb hbel; have HM7 := HM6.blk_ hg3 hb hbel; clear HM6 hg3 hb hbel)
        | ((with_reducible refine gate_store (t := 22) (p := 10) rfl ?_); (refine HM7.storeBlk 0 rfl rfl 22 (.tmp 10) _ rfl (.slice (some ⟨gW, 0, none⟩) n' capW) rfl rfl rfl rfl infoNx1 rfl (by show 0 < 1; decide) ?_; intro w8 HM8; clear HM7)))
      have HM9 : Mem W.heap.size (fun _ => False) W w8 (blk g2 #[.int .i64 base, .int .i64 tracks, .slice A2 l2.length c2, .slice A3 l3.length c3] 25 :: blk g10 #[.slice (some ⟨gW, 0, none⟩) n' capW] 22 :: blk g4 #[.int .i64 base, .int .i64 tracks, .slice Ao2 T'.length co2, .slice Ao3 ends'.length co3] 25 :: row kS 26 (.slice (some ⟨gW, 0, none⟩) n' capW) (List.replicate n' zS) :: two (row kL 26 (.slice Ao2 T'.length co2) (II T')) (row kB 4 (.slice Ao3 ends'.length co3) ends') :: rows kI 3 n' (fun j => encS ((List.replicate n' zS).getD j zS)) (fun j => I (wpart wt 0 0 j))) := by
        have h := (((((((HM8.front 2 rfl).front 2 rfl).front 3 rfl).front 3 rfl).front 4 rfl).nils kI 3 n').swap)
        rw [rows_congr (d := kI) (e := 3) (m := n') (f := fun j => encS ((List.replicate n' zS).getD j zS)) (f' := fun _ => nilS) (g := fun j => I (wpart wt 0 0 j)) (g' := fun _ => []) (fun j hj => ⟨repS n' j, by
          unfold wpart
          rw [if_neg (by omega)]
          split <;> simp [I]⟩)]
        exact h
      clear HM8
      go_cut [] (fun wc => ∃ P : List (Option Addr × Nat × Nat), P.length = n' ∧ Mem W.heap.size (fun _ => False) W wc (blk g2 #[.int .i64 base, .int .i64 tracks, .slice A2 l2.length c2, .slice A3 l3.length c3] 25 :: blk g10 #[.slice (some ⟨gW, 0, none⟩) n' capW] 22 :: blk g4 #[.int .i64 base, .int .i64 tracks, .slice Ao2 T'.length co2, .slice Ao3 ends'.length co3] 25 :: row kS 26 (.slice (some ⟨gW, 0, none⟩) n' capW) P :: two (row kL 26 (.slice Ao2 T'.length co2) (II T')) (row kB 4 (.slice Ao3 ends'.length co3) ends') :: rows kI 3 n' (fun j => encS (P.getD j zS)) (fun j => I (wt j))))
      case first =>
        go_wp2
        go_loopg [11, 12, 13, 14, 15, 16, 49] n' (fun gk v11 v12 v13 v14 v15 v16 v49 w' => ∃ (l : Nat) (P : List (Option Addr × Nat × Nat)), v49 = .int .i64 l ∧ Aside0 (gk + l = n' ∧ P.length = n') ∧ Mem W.heap.size (fun _ => False) W w' (blk g2 #[.int .i64 base, .int .i64 tracks, .slice A2 l2.length c2, .slice A3 l3.length c3] 25 :: blk g10 #[.slice (some ⟨gW, 0, none⟩) n' capW] 22 :: blk g4 #[.int .i64 base, .int .i64 tracks, .slice Ao2 T'.length co2, .slice Ao3 ends'.length co3] 25 :: row kS 26 (.slice (some ⟨gW, 0, none⟩) n' capW) P :: two (row kL 26 (.slice Ao2 T'.length co2) (II T')) (row kB 4 (.slice Ao3 ends'.length co3) ends') :: rows kI 3 n' (fun j => encS (P.getD j zS)) (fun j => I (wpart wt l 0 j))))
        case atStart => exact ⟨0, _, rfl, ⟨by omega, by rw [List.length_replicate]⟩, HM9⟩
        case round =>
          clear HM9
          obtain ⟨g1, rfl⟩ : ∃ x : Nat, x = gk := ⟨_, rfl⟩
          obtain ⟨w10, rfl⟩ : ∃ x : World, x = wr := ⟨_, rfl⟩
          obtain ⟨l, P, rfl, HK, HM⟩ := hrel
          have hll : l ≤ n' := by have := HK.out; omega
          by_cases hl : l < n'
          · have hc0 : w10.cell? ⟨g2, 0, none⟩ = some (.int .i64 base) := (HM.cell (i := 0) rfl 0).1
            have hc1 : w10.cell? ⟨g2, 1, none⟩ = some (.int .i64 tracks) := (HM.cell (i := 0) rfl 1).1
            obtain ⟨hu, hdl, hpk⟩ := HPUT.out l hl
            obtain ⟨d, hd⟩ : ∃ d, d = dg l := ⟨_, rfl⟩
            rw [← hd] at hu hdl hpk
            have hd4 : d.length ≤ 4 := by omega
            have htd : tr ≤ d.length := by have := HTT.out; omega
            have HU := Aside0.mk hu
            have HPK := Aside0.mk hpk
            clear hu hpk hd hdl
            go_wp2_with (first
              | (go_at_call 44; (refine (Go.Proofs.Ytlffephcbfdknaa.PSomeTakes.letter_Unpack.calls 40 base (tracks - 1) l (I d) none _ HU.out).mono ?_; rintro e w11 ⟨v12, rfl, hr, hb⟩; have HM1 := HM.row_ hb hr; clear HM hb hr hc1 hc0; have hc0 : w11.cell? ⟨g2, 0, none⟩ = some (.int .i64 base) := (HM1.cell (i := 1) rfl 0).1))
              | (go_at_call 45; (refine (digit_Radix.calls base k0 _ HRK.out).mono ?_; rintro e w12 ⟨rfl, hb⟩; have HM2 := HM1.grow hb.below; clear HM1 hb hc0)))
            go_loopg [14, 15, 16, 65] k0 (fun gk v14 v15 v16 v65 w' => ∃ (x : Nat) (P : List (Option Addr × Nat × Nat)), v65 = .int .i64 x ∧ Aside0 (gk + x = k0 ∧ P.length = n') ∧ Mem W.heap.size (fun _ => False) W w' (row kI 3 v12 (I d) :: blk g2 #[.int .i64 base, .int .i64 tracks, .slice A2 l2.length c2, .slice A3 l3.length c3] 25 :: blk g10 #[.slice (some ⟨gW, 0, none⟩) n' capW] 22 :: blk g4 #[.int .i64 base, .int .i64 tracks, .slice Ao2 T'.length co2, .slice Ao3 ends'.length co3] 25 :: row kS 26 (.slice (some ⟨gW, 0, none⟩) n' capW) P :: two (row kL 26 (.slice Ao2 T'.length co2) (II T')) (row kB 4 (.slice Ao3 ends'.length co3) ends') :: rows kI 3 n' (fun j => encS (P.getD j zS)) (fun j => I (wpart wt l x j))))
            case atStart => exact ⟨0, P, rfl, ⟨by omega, HK.out.2⟩, HM2⟩
            case round =>
              clear HM2
              obtain ⟨gx, rfl⟩ : ∃ x : Nat, x = gk := ⟨_, rfl⟩
              obtain ⟨w30, rfl⟩ : ∃ x : World, x = wr := ⟨_, rfl⟩
              obtain ⟨x, P, rfl, HKx, HM⟩ := hrel
              have hxl : x ≤ k0 := by have := HKx.out; omega
              by_cases hx : x < k0
              · have hc0 : w30.cell? ⟨g2, 0, none⟩ = some (.int .i64 base) := (HM.cell (i := 1) rfl 0).1
                have hpk := HPK.out x hx
                obtain ⟨kx, hkx⟩ : ∃ kx, kx = (wt l).getD x 0 := ⟨_, rfl⟩
                rw [← hkx] at hpk
                have HPX := Aside0.mk hpk
                have HKX := Aside0.mk hkx
                have HM4 := HM.grow (Below.refl _ _).drew
                clear HM hpk hkx
                go_wp2_with fail
                refine start_ (n := 14) (S := fun w' => w'.cell? ⟨g2, 0, none⟩ = some (.int .i64 base)) (ds := []) #[false, false, false, false, false, false, false, false, false, false, false, false, false, false] (by kernel_rfl) rfl rfl (hc0) (fun hHeld => ?_)
                generalize w30.drew = w31 at HM4 hHeld ⊢
                refine pure_ (i := 0) (N := some 69) (v := ?_) (a' := ?_) #[true, false, false, false, false, false, false, false, false, false, false, false, false, false] rfl rfl (by kernel_rfl) (fun _ _ _ h => h) (Or.inl ⟨by rfl, ?_⟩) ?_ ?_
                rotate_left
                · intro w'
                  go_simp
                  with_reducible rfl
                rotate_left
                · simp only [Act.put, List.setIfInBounds_toArray, List.set_cons_zero, List.set_cons_succ, i64_w, i32_w]
                  rfl
                refine pure_ (i := 2) (N := some 71) (v := ?_) (a' := ?_) #[true, false, true, false, false, false, false, false, false, false, false, false, false, false] rfl rfl (by kernel_rfl) (fun _ _ _ h => h) (Or.inl ⟨by rfl, ?_⟩) ?_ ?_
                rotate_left
                · intro w'
                  go_simp
                  with_reducible rfl
                rotate_left
                · simp only [Act.put, List.setIfInBounds_toArray, List.set_cons_zero, List.set_cons_succ, i64_w, i32_w]
                  rfl
                refine pure_ (i := 4) (N := some 73) (v := ?_) (a' := ?_) #[true, false, true, false, true, false, false, false, false, false, false, false, false, false] rfl rfl (by kernel_rfl) (fun _ _ _ h => h) (Or.inl ⟨by rfl, ?_⟩) ?_ ?_
                rotate_left
                · intro w'
                  go_simp
                  with_reducible rfl
                rotate_left
                · simp only [Act.put, List.setIfInBounds_toArray, List.set_cons_zero, List.set_cons_succ, i64_w, i32_w]
                  rfl
                refine pure_ (i := 5) (N := some 74) (v := ?_) (a' := ?_) #[true, false, true, false, true, true, false, false, false, false, false, false, false, false] rfl rfl (by kernel_rfl) (fun _ _ _ h => h) (Or.inl ⟨by rfl, ?_⟩) ?_ ?_
                rotate_left
                · intro w'
                  go_simp
                  with_reducible rfl
                rotate_left
                · simp only [Act.put, List.setIfInBounds_toArray, List.set_cons_zero, List.set_cons_succ, i64_w, i32_w]
                  rfl
                refine take_ (i := 1) (N := some 70) (v := ?_) (a' := ?_) #[true, true, true, false, true, true, false, false, false, false, false, false, false, false] rfl rfl (by kernel_rfl) (fun _ _ _ h => h) (Or.inl ⟨by rfl, ?_⟩) hHeld ?_ ?_
                rotate_left
                · intro w' s0
                  go_simp
                  with_reducible rfl
                rotate_left
                · simp only [Act.put, List.setIfInBounds_toArray, List.set_cons_zero, List.set_cons_succ, i64_w, i32_w]
                  rfl
                refine join_ (σ := Value × Value) 7 #[true, true, true, true, true, true, true, false, false, false, false, false, false, false] (fun s => [(72, s.1), (75, s.2)]) (fun s w' => Mem W.heap.size (fun _ => False) W w' (row kI 3 s.2 [(x : Int)] :: row kI 3 s.1 (I d) :: row kI 3 v12 (I d) :: blk g2 #[.int .i64 base, .int .i64 tracks, .slice A2 l2.length c2, .slice A3 l3.length c3] 25 :: blk g10 #[.slice (some ⟨gW, 0, none⟩) n' capW] 22 :: blk g4 #[.int .i64 base, .int .i64 tracks, .slice Ao2 T'.length co2, .slice Ao3 ends'.length co3] 25 :: row kS 26 (.slice (some ⟨gW, 0, none⟩) n' capW) P :: two (row kL 26 (.slice Ao2 T'.length co2) (II T')) (row kB 4 (.slice Ao3 ends'.length co3) ends') :: rows kI 3 n' (fun j => encS (P.getD j zS)) (fun j => I (wpart wt l x j)))) ?_ ?_
                rotate_left
                · intro hCont
                  refine two_ (i := 3) (j := 6) (Ni := some 72) (Nj := some 75) #[true, true, true, true, true, true, false, false, false, false, false, false, false, false] #[true, true, true, false, true, true, true, false, false, false, false, false, false, false] rfl rfl rfl rfl (by kernel_rfl) (by decide) (by decide) (fun K hK => ?_) (fun K hK => ?_)
                  · skip
                    refine goes_ Try.func48 (by kernel_rfl) rfl #[v12] (by rfl) rfl rfl (by simp only [List.map_toArray, List.map_cons, List.map_nil]; rfl) ?_
                    refine (clone_calls HM4 0 v12 (I d) rfl (by rw [I_len]; omega)).mono ?_
                    rintro e w5 ⟨vc, rfl, HM5⟩
                    refine ⟨_, rfl, ?_⟩
                    clear HM4
                    have HM4 := HM5
                    clear HM5
                    refine hK.out _ _ ((HM4.cell (i := 2) rfl 0).1) (fun hHeld => ?_)
                    clear hK K
                    refine norm_ (a' := ?_) ?_ ?_
                    rotate_left
                    · show Act.put _ (some 72) _ = _
                      simp only [Act.put, List.setIfInBounds_toArray, List.set_cons_zero, List.set_cons_succ, i64_w, i32_w]
                      rfl
                    refine one_ (i := 6) (N := some 75) #[true, true, true, true, true, true, true, false, false, false, false, false, false, false] rfl rfl (by kernel_rfl) (by decide) (fun K hK => ?_)
                    refine HM4.litStep (enc := Value.int .i64) (h1 := fun _ => rfl) 3 (by rfl) (N := 75) rfl [(x : Int)] ?hr (by simp) ?_
                    (case hr => first | (go_simp; done) | (go_simp; rfl))
                    intro v75 w6 HM5
                    clear HM4
                    have HM4 := HM5
                    clear HM5
                    refine hK.out _ _ ((HM4.cell (i := 3) rfl 0).1) (fun hHeld => ?_)
                    clear hK K
                    refine norm_ (a' := ?_) ?_ ?_
                    rotate_left
                    · show Act.put _ (some 75) _ = _
                      simp only [Act.put, List.setIfInBounds_toArray, List.set_cons_zero, List.set_cons_succ, i64_w, i32_w]
                      rfl
                    exact norm_ (by simp only [putAll, Act.put, List.setIfInBounds_toArray, List.set_cons_zero, List.set_cons_succ]) (hCont ⟨vc, v75⟩ _ HM4)
                  · skip
                    refine HM4.litStep (enc := Value.int .i64) (h1 := fun _ => rfl) 3 (by rfl) (N := 75) rfl [(x : Int)] ?hr (by simp) ?_
                    (case hr => first | (go_simp; done) | (go_simp; rfl))
                    intro v75 w6 HM5
                    clear HM4
                    have HM4 := HM5
                    clear HM5
                    refine hK.out _ _ ((HM4.cell (i := 2) rfl 0).1) (fun hHeld => ?_)
                    clear hK K
                    refine norm_ (a' := ?_) ?_ ?_
                    rotate_left
                    · show Act.put _ (some 75) _ = _
                      simp only [Act.put, List.setIfInBounds_toArray, List.set_cons_zero, List.set_cons_succ, i64_w, i32_w]
                      rfl
                    refine one_ (i := 3) (N := some 72) #[true, true, true, true, true, true, true, false, false, false, false, false, false, false] rfl rfl (by kernel_rfl) (by decide) (fun K hK => ?_)
                    refine goes_ Try.func48 (by kernel_rfl) rfl #[v12] (by rfl) rfl rfl (by simp only [List.map_toArray, List.map_cons, List.map_nil]; rfl) ?_
                    refine (clone_calls HM4 1 v12 (I d) rfl (by rw [I_len]; omega)).mono ?_
                    rintro e w5 ⟨vc, rfl, HM5⟩
                    refine ⟨_, rfl, ?_⟩
                    clear HM4
                    have HM4 := HM5
                    clear HM5
                    refine hK.out _ _ ((HM4.cell (i := 3) rfl 0).1) (fun hHeld => ?_)
                    clear hK K
                    refine norm_ (a' := ?_) ?_ ?_
                    rotate_left
                    · show Act.put _ (some 72) _ = _
                      simp only [Act.put, List.setIfInBounds_toArray, List.set_cons_zero, List.set_cons_succ, i64_w, i32_w]
                      rfl
                    exact norm_ (by simp only [putAll, Act.put, List.setIfInBounds_toArray, List.set_cons_zero, List.set_cons_succ]) (hCont ⟨vc, v75⟩ _ (HM4.front 1 rfl))
                rintro ⟨vc, v75⟩ w' HM6
                have hHeld : w'.cell? ⟨g2, 0, none⟩ = some (.int .i64 base) := (HM6.cell (i := 3) rfl 0).1
                refine norm_ (a' := ?_) ?_ ?_
                rotate_left
                · simp only [putAll, Act.put, List.setIfInBounds_toArray, List.set_cons_zero, List.set_cons_succ]
                  rfl
                refine one_ (i := 7) (N := some 76) #[true, true, true, true, true, true, true, true, false, false, false, false, false, false] rfl rfl (by kernel_rfl) (by decide) (fun K hK => ?_)
                refine goes_ Try.func47 (by kernel_rfl) rfl #[vc, .int .i64 (tr : Int), v75] (by rfl) rfl rfl (by simp only [List.map_toArray, List.map_cons, List.map_nil]; rfl) ?_
                refine (insert_calls HM6 1 0 vc v75 (I d) (x : Int) rfl rfl tr (by rw [I_len]; exact htd) (by rw [I_len]; omega)).mono ?_
                rintro e w8 ⟨vi, rfl, HM7⟩
                refine ⟨_, rfl, ?_⟩
                clear HM6
                refine hK.out _ _ ((HM7.cell (i := 3) rfl 0).1) (fun hHeld => ?_)
                clear hK K
                refine norm_ (a' := ?_) ?_ ?_
                rotate_left
                · show Act.put _ (some 76) _ = _
                  simp only [Act.put, List.setIfInBounds_toArray, List.set_cons_zero, List.set_cons_succ, i64_w, i32_w]
                  rfl
                refine one_ (i := 8) (N := some 77) #[true, true, true, true, true, true, true, true, true, false, false, false, false, false] rfl rfl (by kernel_rfl) (by decide) (fun K hK => ?_)
                obtain ⟨Ai, ci, ei, hci, hCi⟩ := HM7.rowSlice (i := 1) rfl
                subst ei
                refine goes_ Try.func46 (by kernel_rfl) rfl #[.int .i64 base, .slice Ai ((I d).take tr ++ (x : Int) :: (I d).drop tr).length ci] (by rfl) rfl rfl (by simp only [List.map_toArray, List.map_cons, List.map_nil]; rfl) ?_
                refine (Go.Proofs.Ytlffephcbfdknaa.PSomeTakes.letter_Pack.calls 40 base Ai ci _ kx none _ hCi hci HPX.out).mono ?_
                rintro e w9 ⟨rfl, hb⟩
                refine ⟨_, rfl, ?_⟩
                have HM8 := HM7.grow hb.below
                clear HM7 hb hCi hci
                refine hK.out _ _ ((HM8.cell (i := 3) rfl 0).1) (fun hHeld => ?_)
                clear hK K
                refine norm_ (a' := ?_) ?_ ?_
                rotate_left
                · show Act.put _ (some 77) _ = _
                  simp only [Act.put, List.setIfInBounds_toArray, List.set_cons_zero, List.set_cons_succ, i64_w, i32_w]
                  rfl
                refine pure_ (i := 9) (N := some 68) (v := ?_) (a' := ?_) #[true, true, true, true, true, true, true, true, true, true, false, false, false, false] rfl rfl (by kernel_rfl) (fun _ _ _ h => h) (Or.inl ⟨by rfl, ?_⟩) ?_ ?_
                rotate_left
                · intro w'
                  go_simp
                  with_reducible rfl
                rotate_left
                · simp only [Act.put, List.setIfInBounds_toArray, List.set_cons_zero, List.set_cons_succ, i64_w, i32_w]
                  rfl
                refine pure_ (i := 10) (N := some 78) (v := ?_) (a' := ?_) #[true, true, true, true, true, true, true, true, true, true, true, false, false, false] rfl rfl (by kernel_rfl) (fun _ _ _ h => h) (Or.inl ⟨by rfl, ?_⟩) ?_ ?_
                rotate_left
                · intro w'
                  go_simp
                  with_reducible rfl
                rotate_left
                · simp only [Act.put, List.setIfInBounds_toArray, List.set_cons_zero, List.set_cons_succ, i64_w, i32_w]
                  rfl
                refine pure_ (i := 11) (N := some 79) (v := ?_) (a' := ?_) #[true, true, true, true, true, true, true, true, true, true, true, true, false, false] rfl rfl (by kernel_rfl) (fun _ _ _ h => h) (Or.inl ⟨by rfl, ?_⟩) ?_ ?_
                rotate_left
                · intro w'
                  go_simp
                  with_reducible rfl
                rotate_left
                · simp only [Act.put, List.setIfInBounds_toArray, List.set_cons_zero, List.set_cons_succ, i64_w, i32_w]
                  rfl
                refine pure_ (i := 12) (N := some 15) (v := ?_) (a' := ?_) #[true, true, true, true, true, true, true, true, true, true, true, true, true, false] rfl rfl (by kernel_rfl) (fun _ _ _ h => h) (Or.inl ⟨by rfl, ?_⟩) ?_ ?_
                rotate_left
                · intro w'
                  go_simp
                  with_reducible rfl
                rotate_left
                · simp only [Act.put, List.setIfInBounds_toArray, List.set_cons_zero, List.set_cons_succ, i64_w, i32_w]
                  rfl
                refine pure_ (i := 13) (N := some 16) (v := ?_) (a' := ?_) #[true, true, true, true, true, true, true, true, true, true, true, true, true, true] rfl rfl (by kernel_rfl) (fun _ _ _ h => h) (Or.inl ⟨by rfl, ?_⟩) ?_ ?_
                rotate_left
                · intro w'
                  go_simp
                  with_reducible rfl
                rotate_left
                · simp only [Act.put, List.setIfInBounds_toArray, List.set_cons_zero, List.set_cons_succ, i64_w, i32_w]
                  rfl
                refine done_ (by kernel_rfl) ?_
                have HM9 := (HM8.drop 0).drop 0
                clear HM8
                have hc10 : w9.cell? ⟨g10, 0, none⟩ = some (.slice (some ⟨gW, 0, none⟩) n' capW) := (HM9.cell (i := 2) rfl 0).1
                have hPl : P.length = n' := HKx.out.2
                have hcW := (HM9.rowCell zS (i := 4) rfl (j := l) (by rw [hPl]; exact hl)).1
                obtain ⟨pl, hpl⟩ : ∃ pl, pl = wpart wt l x l := ⟨_, rfl⟩
                have hplx : pl = (wt l).take x := by rw [hpl]; unfold wpart; rw [if_neg (Nat.lt_irrefl l), if_pos rfl]
                have hpll : pl.length ≤ 6 := by rw [hplx, List.length_take]; omega
                have hprow : (rows kI 3 n' (fun j => encS (P.getD j zS)) (fun j => I (wpart wt l x j)))[l]? = some (row kI 3 (encS (P.getD l zS)) (I pl)) := by rw [rows_at hl, hpl]
                obtain ⟨Av, cv, ev, hcv, _⟩ := HM9.rowSlice (i := l + 6) hprow
                rw [ev] at hcW hprow
                have HPROW := Aside0.mk hprow
                have HEV := Aside0.mk ev
                have HPLX := Aside0.mk hplx
                have HM10 := HM9.grow (Below.refl _ _).drew
                have HPL' := Aside0.mk hPl
                clear HM9 hprow ev hplx hpl hPl
                go_wp2_with fail
                refine start_ (n := 11) (S := fun w' => w'.cell? ⟨g10, 0, none⟩ = some (.slice (some ⟨gW, 0, none⟩) n' capW) ∧ w'.cell? ⟨gW, l, none⟩ = some (.slice Av (I pl).length cv)) (ds := [10]) #[false, false, false, false, false, false, false, false, false, false, false] (by kernel_rfl) rfl rfl ⟨hc10, hcW⟩ (fun hHeld => ?_)
                generalize w9.drew = w10' at HM10 hHeld ⊢
                refine pure_ (i := 1) (N := some 81) (v := ?_) (a' := ?_) #[false, true, false, false, false, false, false, false, false, false, false] rfl rfl (by kernel_rfl) (fun _ _ _ h => h) (Or.inl ⟨by rfl, ?_⟩) ?_ ?_
                rotate_left
                · intro w'
                  go_simp
                  with_reducible rfl
                rotate_left
                · simp only [Act.put, List.setIfInBounds_toArray, List.set_cons_zero, List.set_cons_succ, i64_w, i32_w]
                  rfl
                refine pure_ (i := 3) (N := some 83) (v := ?_) (a' := ?_) #[false, true, false, true, false, false, false, false, false, false, false] rfl rfl (by kernel_rfl) (fun _ _ _ h => h) (Or.inl ⟨by rfl, ?_⟩) ?_ ?_
                rotate_left
                · intro w'
                  go_simp
                  with_reducible rfl
                rotate_left
                · simp only [Act.put, List.setIfInBounds_toArray, List.set_cons_zero, List.set_cons_succ, i64_w, i32_w]
                  rfl
                refine pure_ (i := 6) (N := some 86) (v := ?_) (a' := ?_) #[false, true, false, true, false, false, true, false, false, false, false] rfl rfl (by kernel_rfl) (fun _ _ _ h => h) (Or.inl ⟨by rfl, ?_⟩) ?_ ?_
                rotate_left
                · intro w'
                  go_simp
                  with_reducible rfl
                rotate_left
                · simp only [Act.put, List.setIfInBounds_toArray, List.set_cons_zero, List.set_cons_succ, i64_w, i32_w]
                  rfl
                refine take_ (i := 0) (N := some 80) (v := ?_) (a' := ?_) #[true, true, false, true, false, false, true, false, false, false, false] rfl rfl (by kernel_rfl) (fun _ _ _ h => h) (Or.inl ⟨by rfl, ?_⟩) hHeld ?_ ?_
                rotate_left
                · rintro w' ⟨s0, s1⟩
                  go_simp
                  with_reducible rfl
                rotate_left
                · simp only [Act.put, List.setIfInBounds_toArray, List.set_cons_zero, List.set_cons_succ, i64_w, i32_w]
                  rfl
                refine take_ (i := 2) (N := some 82) (v := ?_) (a' := ?_) #[true, true, true, true, false, false, true, false, false, false, false] rfl rfl (by kernel_rfl) (fun _ _ _ h => h) (Or.inl ⟨by rfl, ?_⟩) hHeld ?_ ?_
                rotate_left
                · rintro w' ⟨s0, s1⟩
                  go_simp
                  with_reducible rfl
                rotate_left
                · simp only [Act.put, List.setIfInBounds_toArray, List.set_cons_zero, List.set_cons_succ, i64_w, i32_w]
                  rfl
                refine pure_ (i := 4) (N := some 84) (v := ?_) (a' := ?_) #[true, true, true, true, true, false, true, false, false, false, false] rfl rfl (by kernel_rfl) (fun _ _ _ h => h) (Or.inl ⟨by rfl, ?_⟩) ?_ ?_
                rotate_left
                · intro w'
                  go_simp
                  with_reducible rfl
                rotate_left
                · simp only [Act.put, List.setIfInBounds_toArray, List.set_cons_zero, List.set_cons_succ, i64_w, i32_w]
                  rfl
                refine take_ (i := 5) (N := some 85) (v := ?_) (a' := ?_) #[true, true, true, true, true, true, true, false, false, false, false] rfl rfl (by kernel_rfl) (fun _ _ _ h => h) (Or.inl ⟨by rfl, ?_⟩) hHeld ?_ ?_
                rotate_left
                · rintro w' ⟨s0, s1⟩
                  go_simp
                  with_reducible rfl
                rotate_left
                · simp only [Act.put, List.setIfInBounds_toArray, List.set_cons_zero, List.set_cons_succ, i64_w, i32_w]
                  rfl
                refine one_ (i := 7) (N := some 87) #[true, true, true, true, true, true, true, true, false, false, false] rfl rfl (by kernel_rfl) (by decide) (fun K hK => ?_)
                refine HM10.litStep (enc := Value.int .i64) (h1 := fun _ => rfl) 3 (by rfl) (N := 87) rfl [(kx : Int)] ?hr (by simp) ?_
                (case hr => first | (go_simp; done) | (go_simp; rfl))
                intro v87 w11 HM11
                clear HM10
                refine hK.out _ _ ⟨(HM11.cell (i := 3) rfl 0).1, (by have h := (HM11.rowCell zS (i := 5) rfl (j := l) (by rw [HPL'.out]; exact hl)).1; rw [HEV.out] at h; exact h)⟩ (fun hHeld => ?_)
                clear hK K
                refine norm_ (a' := ?_) ?_ ?_
                rotate_left
                · show Act.put _ (some 87) _ = _
                  simp only [Act.put, List.setIfInBounds_toArray, List.set_cons_zero, List.set_cons_succ, i64_w, i32_w]
                  rfl
                refine one_ (i := 8) (N := some 88) #[true, true, true, true, true, true, true, true, true, false, false] rfl rfl (by kernel_rfl) (by decide) (fun K hK => ?_)
                obtain ⟨A87, c87, e87, _, hC87⟩ := HM11.rowSlice (i := 0) rfl
                subst e87
                refine HM11.appendAllStep (l + 7) (by rfl) (.tmp 85) (.tmp 87) 26 3 (.int .i64 0) 8 rfl Try.underlying26 infoI rfl (by decide) (.slice Av (I pl).length cv) (I pl) [(kx : Int)] A87 1 c87 rfl rfl HPROW.out hC87 (by rw [I_len]; omega) ?_
                intro v88 w12 HM12
                clear HM11 hC87
                refine hK.out _ _ ⟨(HM12.cell (i := 3) rfl 0).1, (by have h := (HM12.rowCell zS (i := 5) rfl (j := l) (by rw [HPL'.out]; exact hl)).1; rw [HEV.out] at h; exact h)⟩ (fun hHeld => ?_)
                clear hK K
                refine norm_ (a' := ?_) ?_ ?_
                rotate_left
                · show Act.put _ (some 88) _ = _
                  simp only [Act.put, List.setIfInBounds_toArray, List.set_cons_zero, List.set_cons_succ, i64_w, i32_w]
                  rfl
                refine pure_ (i := 9) (N := some 89) (v := ?_) (a' := ?_) #[true, true, true, true, true, true, true, true, true, true, false] rfl rfl (by kernel_rfl) (fun _ _ _ h => h) (Or.inl ⟨by rfl, ?_⟩) ?_ ?_
                rotate_left
                · intro w'
                  go_simp
                  with_reducible rfl
                rotate_left
                · simp only [Act.put, List.setIfInBounds_toArray, List.set_cons_zero, List.set_cons_succ, i64_w, i32_w]
                  rfl
                refine last_ (i := 10) (N := none) #[true, true, true, true, true, true, true, true, true, true, true] rfl rfl (by kernel_rfl) (by decide) (fun K hK => ?_)
                have hr88 : ((row kI 3 (.slice A87 1 c87) [(kx : Int)] :: row kI 3 v12 (I d) :: blk g2 #[.int .i64 base, .int .i64 tracks, .slice A2 l2.length c2, .slice A3 l3.length c3] 25 :: blk g10 #[.slice (some ⟨gW, 0, none⟩) n' capW] 22 :: blk g4 #[.int .i64 base, .int .i64 tracks, .slice Ao2 T'.length co2, .slice Ao3 ends'.length co3] 25 :: row kS 26 (.slice (some ⟨gW, 0, none⟩) n' capW) P :: two (row kL 26 (.slice Ao2 T'.length co2) (II T')) (row kB 4 (.slice Ao3 ends'.length co3) ends') :: rows kI 3 n' (fun j => encS (P.getD j zS)) (fun j => I (wpart wt l x j))).set (l + 7) (row kI 3 v88 (I pl ++ [(kx : Int)])))[l + 7]? = some (row kI 3 v88 (I pl ++ [(kx : Int)])) := List.getElem?_set_self (by show l + 7 < _ + 7; have : (rows kI 3 n' (fun j => encS (P.getD j zS)) (fun j => I (wpart wt l x j))).length = n' := (by simp [rows]); omega)
                obtain ⟨A8, c8, e8, _, _⟩ := HM12.rowSlice (i := l + 7) hr88
                subst e8
                refine HM12.store1Step (enc := encS) (h1 := encS_one) 5 rfl (by rfl) 26 (.tmp 89) (.tmp 88) rfl 26 (j := l) P (A8, (I pl ++ [(kx : Int)]).length, c8) rfl rfl rfl infoL1 rfl (by rw [HPL'.out]; exact hl) ?_
                intro w13 HM13
                clear HM12 hr88
                refine hK.out _ _ ?_
                clear hK K
                refine done_ (by kernel_rfl) ?_
                go_wp2_with fail
                obtain ⟨P', hP'⟩ : ∃ P', P' = P.set l (A8, (I pl ++ [(kx : Int)]).length, c8) := ⟨_, rfl⟩
                have hP'l : P'.length = n' := by rw [hP', List.length_set]; exact HPL'.out
                have hset := rows_set kI 3 n' (fun j => encS (P.getD j zS)) (fun j => encS (P'.getD j zS)) (fun j => I (wpart wt l x j)) (fun j => I (wpart wt l (x + 1) j)) l (fun i _ hil => by
                  rw [hP', List.getD_eq_getElem?_getD, List.getD_eq_getElem?_getD, List.getElem?_set_ne (fun h => hil h.symm)]) (fun i _ hil => by
                  unfold wpart
                  by_cases h1 : i < l
                  · rw [if_pos h1, if_pos h1]
                  · rw [if_neg h1, if_neg h1, if_neg hil, if_neg hil])
                have e1 : encS (P'.getD l zS) = .slice A8 (I pl ++ [(kx : Int)]).length c8 := by
                  rw [hP', List.getD_eq_getElem?_getD, List.getElem?_set_self (by rw [HPL'.out]; exact hl)]
                  rfl
                have e2 : I (wpart wt l (x + 1) l) = I pl ++ [(kx : Int)] := by
                  unfold wpart
                  rw [if_neg (Nat.lt_irrefl l), if_pos rfl, take_snoc' (by rw [HWL.out]; exact hx), I_snoc, HPLX.out, HKX.out, getD_at (by rw [HWL.out]; exact hx)]
                rw [e1, e2] at hset
                rw [← hP'] at HM13
                have HM14 : Mem W.heap.size (fun _ => False) W w13 (row kI 3 (.slice A87 1 c87) [(kx : Int)] :: row kI 3 v12 (I d) :: blk g2 #[.int .i64 base, .int .i64 tracks, .slice A2 l2.length c2, .slice A3 l3.length c3] 25 :: blk g10 #[.slice (some ⟨gW, 0, none⟩) n' capW] 22 :: blk g4 #[.int .i64 base, .int .i64 tracks, .slice Ao2 T'.length co2, .slice Ao3 ends'.length co3] 25 :: row kS 26 (.slice (some ⟨gW, 0, none⟩) n' capW) P' :: two (row kL 26 (.slice Ao2 T'.length co2) (II T')) (row kB 4 (.slice Ao3 ends'.length co3) ends') :: rows kI 3 n' (fun j => encS (P'.getD j zS)) (fun j => I (wpart wt l (x + 1) j))) := by
                  rw [← hset]
                  exact HM13
                have HM15 := HM14.drop 0
                clear HM13 HM14 hset e1 e2 hP'
                go_roundg (gx - 1)
                case measure => have := HKx.out; omega
                case rel => exact ⟨x + 1, P', by go_num, ⟨by have := HKx.out; omega, hP'l⟩, HM15⟩
              · obtain rfl : k0 = x := by omega
                rw [rows_congr (d := kI) (e := 3) (m := n') (f := fun j => encS (P.getD j zS)) (f' := fun j => encS (P.getD j zS)) (g := fun j => I (wpart wt l k0 j)) (g' := fun j => I (wpart wt (l + 1) 0 j)) (fun j hj => ⟨rfl, by rw [congrFun (wpart_next (HWL.out l)) j]⟩)] at HM
                go_wp2
                go_roundg (g1 - 1)
                case measure => have := HK.out; omega
                case rel => exact ⟨l + 1, P, by go_num, ⟨by have := HK.out; omega, HKx.out.2⟩, HM.drop 0⟩
          · obtain rfl : n' = l := by omega
            go_wp2
            go_meet
            case rel =>
              refine ⟨P, HK.out.2, ?_⟩
              rw [rows_congr (d := kI) (e := 3) (m := n') (f' := fun j => encS (P.getD j zS)) (g' := fun j => I (wpart wt n' 0 j)) (fun j hj => ⟨rfl, by unfold wpart; rw [if_pos hj]⟩)]
              exact HM
      case rest =>
        clear HM9
        obtain ⟨P, hPl, HM0⟩ := hcut
        have HM : Mem W.heap.size (fun _ => False) W wc (blk g10 #[.slice (some ⟨gW, 0, none⟩) n' capW] 22 :: blk g4 #[.int .i64 base, .int .i64 tracks, .slice Ao2 T'.length co2, .slice Ao3 ends'.length co3] 25 :: row kS 26 (.slice (some ⟨gW, 0, none⟩) n' capW) P :: two (row kL 26 (.slice Ao2 T'.length co2) (II T')) (row kB 4 (.slice Ao3 ends'.length co3) ends') :: rows kI 3 n' (fun j => encS (P.getD j zS)) (fun j => I (wt j))) := HM0.drop 0
        clear HM0
        have hS : Steps W.heap.size (fun _ => False) W (blk g10 #[.slice (some ⟨gW, 0, none⟩) n' capW] 22 :: blk g4 #[.int .i64 base, .int .i64 tracks, .slice Ao2 T'.length co2, .slice Ao3 ends'.length co3] 25 :: row kS 26 (.slice (some ⟨gW, 0, none⟩) n' capW) P :: two (row kL 26 (.slice Ao2 T'.length co2) (II T')) (row kB 4 (.slice Ao3 ends'.length co3) ends') :: rows kI 3 n' (fun j => encS (P.getD j zS)) (fun j => I (wt j))) (.func (.func 49) #[] #[.pointer (some ⟨g10, 0, none⟩), .pointer (some ⟨g4, 0, none⟩)]) n' (outS T' wt) (fun X => X.length ≤ 256 ∧ ∀ x ∈ X, x < T'.length) := by
          refine ⟨⟨_, _, _, rfl, Try.func49, by kernel_rfl, rfl, ?_⟩, ?_, ?_, ?_, ?_⟩
          · rintro X ⟨hX1, hX2⟩ l hl w Lx A c hMw hC hle
            exact left1_calls n n' T' ends' HWF.out hT80 hn.2 hn36.2 wt HWN.out (fun l => by rw [HWL.out l]; exact hk6) g10 g4 gW capW P hPl base tracks Ao2 co2 Ao3 co3 X hX2 hX1 l hl A c hMw hC
          · rintro X ⟨_, hX⟩ x hx
            have := hX x hx
            omega
          · rintro X ⟨_, hX⟩ l hl x hx
            have := outS_lt HWF.out HWN.out hX hl x hx
            omega
          · rintro X ⟨hX, _⟩ l hl
            have h1 := outS_len (T := T') (wt := wt) (l := l) (m := 6) (by rw [HWL.out l]; exact hk6) X
            omega
          · rintro X ⟨_, hX⟩ l hl
            exact ⟨nrm_len _, fun x hx => stepS_lt HWF.out HWN.out hX hl x hx⟩
        have hz0 := HWN.out 0 (by omega)
        obtain ⟨kc, hkc⟩ := clo_spec HWF.out hz0 base tracks (by omega) (by rw [HWL.out]; omega)
        have hfl := clo_final HWF.out hz0
        have hf256 : ∀ x ∈ clo T' (wt 0), x < 256 := fun x hx => by
          have := clo_lt HWF.out hz0 x hx
          omega
        have hG0 : (nrm (clo T' (wt 0))).length ≤ 256 ∧ ∀ x ∈ nrm (clo T' (wt 0)), x < T'.length := ⟨nrm_len _, fun x hx => clo_lt HWF.out hz0 x (mem_nrm.1 hx).2⟩
        have hO : bfsI (succs n' fun X l => nrm (outS T' wt X l)) (nrm (clo T' (wt 0))) 2001 = sO base tracks tr T' := by rw [HN'.out, HWT.out]; rfl
        have hR : ∀ P : List (List Nat), rowsTo n' (fun X l => nrm (outS T' wt X l)) P P.length = rowsTo (sN base tracks) (stepS T' (sW base tracks tr)) P P.length := fun P => by rw [HN'.out, HWT.out]; rfl
        obtain ⟨fs, hfs⟩ : ∃ fs, fs = clo T' (wt 0) := ⟨_, rfl⟩
        rw [← hfs] at hkc hfl hf256 hG0 hO
        obtain ⟨OO, hOO⟩ : ∃ OO, OO = sO base tracks tr T' := ⟨_, rfl⟩
        rw [← hOO] at hO
        have HS := Aside0.mk hS
        have HKC := Aside0.mk hkc
        have HF256 := Aside0.mk hf256
        have HG0 := Aside0.mk hG0
        have HO := Aside0.mk hO
        have HR := Aside0.mk hR
        have HOO := Aside0.mk hOO
        have HPL := Aside0.mk hPl
        have hw0 := HWL.out 0
        have hnp : 0 < n' := by omega
        have hc10 : wc.cell? ⟨g10, 0, none⟩ = some (.slice (some ⟨gW, 0, none⟩) n' capW) := (HM.cell (i := 0) rfl 0).1
        have hcW := (HM.rowCell zS (i := 2) rfl (j := 0) (by rw [hPl]; omega)).1
        obtain ⟨Av, cv, ev, hcv, _⟩ := HM.rowSlice (i := 4) (rows_at (d := kI) (e := 3) (f := fun j => encS (P.getD j zS)) (g := fun j => I (wt j)) (show 0 < n' by omega))
        rw [ev] at hcW
        have HEV := Aside0.mk ev
        have HCV := Aside0.mk hcv
        have HM4 := HM.grow (Below.refl _ _).drew
        clear HM hS hkc hf256 hG0 hO hR hz0 hfs hOO hPl ev hw0 hcv
        by_cases hbig : 2000 < OO.length
        · have HBIG := Aside0.mk hbig
          clear hbig
          go_wp2_with fail
          refine start_ (n := 15) (S := fun w' => w'.cell? ⟨g10, 0, none⟩ = some (.slice (some ⟨gW, 0, none⟩) n' capW) ∧ w'.cell? ⟨gW, 0, none⟩ = some (.slice Av (I (wt 0)).length cv)) (ds := []) #[false, false, false, false, false, false, false, false, false, false, false, false, false, false, false] (by kernel_rfl) rfl rfl ⟨hc10, hcW⟩ (fun hHeld => ?_)
          generalize wc.drew = w40 at HM4 hHeld ⊢
          refine pure_ (i := 5) (N := some 98) (v := ?_) (a' := ?_) #[false, false, false, false, false, true, false, false, false, false, false, false, false, false, false] rfl rfl (by kernel_rfl) (fun _ _ _ h => h) (Or.inl ⟨by rfl, ?_⟩) ?_ ?_
          rotate_left
          · intro w'
            go_simp
            with_reducible rfl
          rotate_left
          · simp only [Act.put, List.setIfInBounds_toArray, List.set_cons_zero, List.set_cons_succ, i64_w, i32_w]
            rfl
          refine pure_ (i := 6) (N := some 99) (v := ?_) (a' := ?_) #[false, false, false, false, false, true, true, false, false, false, false, false, false, false, false] rfl rfl (by kernel_rfl) (fun _ _ _ h => h) (Or.inl ⟨by rfl, ?_⟩) ?_ ?_
          rotate_left
          · intro w'
            go_simp
            with_reducible rfl
          rotate_left
          · simp only [Act.put, List.setIfInBounds_toArray, List.set_cons_zero, List.set_cons_succ, i64_w, i32_w]
            rfl
          refine take_ (i := 1) (N := some 94) (v := ?_) (a' := ?_) #[false, true, false, false, false, true, true, false, false, false, false, false, false, false, false] rfl rfl (by kernel_rfl) (fun _ _ _ h => h) (Or.inl ⟨by rfl, ?_⟩) hHeld ?_ ?_
          rotate_left
          · rintro w' ⟨s0, s1⟩
            go_simp
            with_reducible rfl
          rotate_left
          · simp only [Act.put, List.setIfInBounds_toArray, List.set_cons_zero, List.set_cons_succ, i64_w, i32_w]
            rfl
          refine pure_ (i := 2) (N := some 95) (v := ?_) (a' := ?_) #[false, true, true, false, false, true, true, false, false, false, false, false, false, false, false] rfl rfl (by kernel_rfl) (fun _ _ _ h => h) (Or.inl ⟨by rfl, ?_⟩) ?_ ?_
          rotate_left
          · intro w'
            go_simp
            with_reducible rfl
          rotate_left
          · simp only [Act.put, List.setIfInBounds_toArray, List.set_cons_zero, List.set_cons_succ, i64_w, i32_w]
            rfl
          refine take_ (i := 3) (N := some 96) (v := ?_) (a' := ?_) #[false, true, true, true, false, true, true, false, false, false, false, false, false, false, false] rfl rfl (by kernel_rfl) (fun _ _ _ h => h) (Or.inl ⟨by rfl, ?_⟩) hHeld ?_ ?_
          rotate_left
          · rintro w' ⟨s0, s1⟩
            go_simp
            with_reducible rfl
          rotate_left
          · simp only [Act.put, List.setIfInBounds_toArray, List.set_cons_zero, List.set_cons_succ, i64_w, i32_w]
            rfl
          refine one_ (i := 0) (N := some 93) #[true, true, true, true, false, true, true, false, false, false, false, false, false, false, false] rfl rfl (by kernel_rfl) (by decide) (fun K hK => ?_)
          refine HM4.loadAllStep 1 (by rfl) 25 (.tmp 4) rfl _ rfl Try.underlying25 rfl (by exact infoA4) rfl ?_
          refine hK.out _ _ ⟨(HM4.cell (i := 0) rfl 0).1, (by have h := (HM4.rowCell zS (i := 2) rfl (j := 0) (by rw [HPL.out]; omega)).1; rw [HEV.out] at h; exact h)⟩ (fun hHeld => ?_)
          clear hK K
          refine norm_ (a' := ?_) ?_ ?_
          rotate_left
          · show Act.put _ (some 93) _ = _
            simp only [Act.put, List.setIfInBounds_toArray, List.set_cons_zero, List.set_cons_succ, i64_w, i32_w]
            rfl
          refine one_ (i := 4) (N := some 97) #[true, true, true, true, true, true, true, false, false, false, false, false, false, false, false] rfl rfl (by kernel_rfl) (by decide) (fun K hK => ?_)
          refine goes_ Try.func35 (by kernel_rfl) rfl #[.agg #[.int .i64 base, .int .i64 tracks, .slice Ao2 T'.length co2, .slice Ao3 ends'.length co3], .slice Av (I (wt 0)).length cv] (by rfl) rfl rfl (by simp only [List.map_toArray, List.map_cons, List.map_nil]; rfl) ?_
          have hq := HM4.two_ (i := 3) rfl
          have hcC : kI.C w40 Av (I (wt 0)).length (I (wt 0)) := (by obtain ⟨Av', cv', ev', _, hC'⟩ := HM4.rowSlice (i := 4) (rows_at (d := kI) (e := 3) (f := fun j => encS (P.getD j zS)) (g := fun j => I (wt j)) (show 0 < n' by omega)); rw [HEV.out] at ev'; injection ev' with e1 e2 e3; rw [e1]; exact hC')
          have hcl := Go.Proofs.Ytlffephcbfdknaa.PSomeTakes.some_closure.calls kc base tracks Ao2 co2 (II T') Ao3 co3 ends' Av cv (I (wt 0)) (I fs) w40 (Kd.R_reads' hq.1).2.2 (by rw [II_len]; exact (Kd.R_reads' hq.1).2.1) (Kd.R_reads' hq.2).2.2 (Kd.R_reads' hq.2).2.1 hcC HCV.out HKC.out
          rw [II_len] at hcl
          refine hcl.mono ?_
          rintro e w41 ⟨v97, rfl, hr, hb⟩
          refine ⟨_, rfl, ?_⟩
          have HM5 := HM4.row_ hb hr
          clear HM4 hb hr hq hcC hcl
          refine hK.out _ _ ⟨(HM5.cell (i := 1) rfl 0).1, (by have h := (HM5.rowCell zS (i := 3) rfl (j := 0) (by rw [HPL.out]; omega)).1; rw [HEV.out] at h; exact h)⟩ (fun hHeld => ?_)
          clear hK K
          refine norm_ (a' := ?_) ?_ ?_
          rotate_left
          · show Act.put _ (some 97) _ = _
            simp only [Act.put, List.setIfInBounds_toArray, List.set_cons_zero, List.set_cons_succ, i64_w, i32_w]
            rfl
          refine one_ (i := 7) (N := some 100) #[true, true, true, true, true, true, true, true, false, false, false, false, false, false, false] rfl rfl (by kernel_rfl) (by decide) (fun K hK => ?_)
          refine goes_ Try.func34 (by kernel_rfl) rfl #[v97, .int .i64 (n' : Int), (.func (.func 49) #[] #[.pointer (some ⟨g10, 0, none⟩), .pointer (some ⟨g4, 0, none⟩)])] (by rfl) rfl rfl (by simp only [List.map_toArray, List.map_cons, List.map_nil]; rfl) ?_
          refine (grow_calls fs HF256.out (by omega) n' (by omega) (outS T' wt) (fun X => X.length ≤ 256 ∧ ∀ x ∈ X, x < T'.length) HG0.out v97 (.func (.func 49) #[] #[.pointer (some ⟨g10, 0, none⟩), .pointer (some ⟨g4, 0, none⟩)]) HM5 HS.out).mono ?_
          rintro e w42 ⟨O, hO, hcase⟩
          rw [HO.out] at hO
          subst hO
          rw [HR.out] at hcase
          have hc2 : e = .returned (.tuple #[.slice none 0 0, .slice none 0 0, .bool false]) ∧ Mem W.heap.size (fun _ => False) W w42 (blk g10 #[.slice (some ⟨gW, 0, none⟩) n' capW] 22 :: blk g4 #[.int .i64 base, .int .i64 tracks, .slice Ao2 T'.length co2, .slice Ao3 ends'.length co3] 25 :: row kS 26 (.slice (some ⟨gW, 0, none⟩) n' capW) P :: two (row kL 26 (.slice Ao2 T'.length co2) (II T')) (row kB 4 (.slice Ao3 ends'.length co3) ends') :: rows kI 3 n' (fun j => encS (P.getD j zS)) (fun j => I (wt j))) := (by rcases hcase with ⟨h, _⟩ | ⟨_, h⟩; (exact absurd HBIG.out (by omega)); (exact h))
          obtain ⟨rfl, HM6⟩ := hc2
          clear hcase
          refine ⟨_, rfl, ?_⟩
          clear HM5
          refine hK.out _ _ ⟨(HM6.cell (i := 0) rfl 0).1, (by have h := (HM6.rowCell zS (i := 2) rfl (j := 0) (by rw [HPL.out]; omega)).1; rw [HEV.out] at h; exact h)⟩ (fun hHeld => ?_)
          clear hK K
          refine norm_ (a' := ?_) ?_ ?_
          rotate_left
          · show Act.put _ (some 100) _ = _
            simp only [Act.put, List.setIfInBounds_toArray, List.set_cons_zero, List.set_cons_succ, i64_w, i32_w]
            rfl
          refine pure_ (i := 8) (N := some 92) (v := ?_) (a' := ?_) #[true, true, true, true, true, true, true, true, true, false, false, false, false, false, false] rfl rfl (by kernel_rfl) (fun _ _ _ h => h) (Or.inl ⟨by rfl, ?_⟩) ?_ ?_
          rotate_left
          · intro w'
            go_simp
            with_reducible rfl
          rotate_left
          · simp only [Act.put, List.setIfInBounds_toArray, List.set_cons_zero, List.set_cons_succ, i64_w, i32_w]
            rfl
          refine pure_ (i := 9) (N := some 101) (v := ?_) (a' := ?_) #[true, true, true, true, true, true, true, true, true, true, false, false, false, false, false] rfl rfl (by kernel_rfl) (fun _ _ _ h => h) (Or.inl ⟨by rfl, ?_⟩) ?_ ?_
          rotate_left
          · intro w'
            go_simp
            with_reducible rfl
          rotate_left
          · simp only [Act.put, List.setIfInBounds_toArray, List.set_cons_zero, List.set_cons_succ, i64_w, i32_w]
            rfl
          refine pure_ (i := 10) (N := some 102) (v := ?_) (a' := ?_) #[true, true, true, true, true, true, true, true, true, true, true, false, false, false, false] rfl rfl (by kernel_rfl) (fun _ _ _ h => h) (Or.inl ⟨by rfl, ?_⟩) ?_ ?_
          rotate_left
          · intro w'
            go_simp
            with_reducible rfl
          rotate_left
          · simp only [Act.put, List.setIfInBounds_toArray, List.set_cons_zero, List.set_cons_succ, i64_w, i32_w]
            rfl
          refine pure_ (i := 11) (N := some 103) (v := ?_) (a' := ?_) #[true, true, true, true, true, true, true, true, true, true, true, true, false, false, false] rfl rfl (by kernel_rfl) (fun _ _ _ h => h) (Or.inl ⟨by rfl, ?_⟩) ?_ ?_
          rotate_left
          · intro w'
            go_simp
            with_reducible rfl
          rotate_left
          · simp only [Act.put, List.setIfInBounds_toArray, List.set_cons_zero, List.set_cons_succ, i64_w, i32_w]
            rfl
          refine pure_ (i := 12) (N := some 5) (v := ?_) (a' := ?_) #[true, true, true, true, true, true, true, true, true, true, true, true, true, false, false] rfl rfl (by kernel_rfl) (fun _ _ _ h => h) (Or.inl ⟨by rfl, ?_⟩) ?_ ?_
          rotate_left
          · intro w'
            go_simp
            with_reducible rfl
          rotate_left
          · simp only [Act.put, List.setIfInBounds_toArray, List.set_cons_zero, List.set_cons_succ, i64_w, i32_w]
            rfl
          refine pure_ (i := 13) (N := some 6) (v := ?_) (a' := ?_) #[true, true, true, true, true, true, true, true, true, true, true, true, true, true, false] rfl rfl (by kernel_rfl) (fun _ _ _ h => h) (Or.inl ⟨by rfl, ?_⟩) ?_ ?_
          rotate_left
          · intro w'
            go_simp
            with_reducible rfl
          rotate_left
          · simp only [Act.put, List.setIfInBounds_toArray, List.set_cons_zero, List.set_cons_succ, i64_w, i32_w]
            rfl
          refine pure_ (i := 14) (N := some 17) (v := ?_) (a' := ?_) #[true, true, true, true, true, true, true, true, true, true, true, true, true, true, true] rfl rfl (by kernel_rfl) (fun _ _ _ h => h) (Or.inl ⟨by rfl, ?_⟩) ?_ ?_
          rotate_left
          · intro w'
            go_simp
            with_reducible rfl
          rotate_left
          · simp only [Act.put, List.setIfInBounds_toArray, List.set_cons_zero, List.set_cons_succ, i64_w, i32_w]
            rfl
          refine done_ (by kernel_rfl) ?_
          go_wp2_with (first
            | ((with_reducible refine gate_dst (N := 106) rfl ?_); (refine HM6.loadAll 1 rfl 25 (.tmp 4) rfl _ rfl Try.underlying25 rfl (by exact infoA4) rfl ?_))
            | ((with_reducible refine gate_store (t := 25) (p := 4) rfl ?_); (refine HM6.storeAll 1 rfl rfl 25 (.tmp 4) _ rfl (us := #[.int .i64 base, .int .i64 tracks, .slice Ao2 T'.length co2, .slice Ao3 ends'.length co3]) rfl rfl (one4 rfl rfl rfl rfl) (by exact infoA4) rfl rfl ?_; intro w43 HM7; clear HM6)))
          refine bodyPost_ret (results_list (rs := [.cell 4 25, .tmp 5, .tmp 6, .tmp 7]) rfl (by simp) (.cell g4 25 _ (0, 0) _ rfl (HM7.blkAt (i := 1) rfl).1 Try.underlying25 rfl infoA4 (.tmp (.tmp (.tmp .nil))))) (by rfl) ?_
          exact ⟨HM7.below, .inr ⟨3, _, _, _, _, _, _, _, _, .inr (.inr (.inl rfl)), rfl, .inr (.inr ⟨rfl, n, T, (T', ends'), tr, HOK.out, HCAN.out, rfl, htl, (by have h1 := HBIG.out; rw [HOO.out] at h1; exact h1)⟩)⟩⟩
        · have HBIG := Aside0.mk hbig
          clear hbig
          go_wp2_with fail
          refine start_ (n := 15) (S := fun w' => w'.cell? ⟨g10, 0, none⟩ = some (.slice (some ⟨gW, 0, none⟩) n' capW) ∧ w'.cell? ⟨gW, 0, none⟩ = some (.slice Av (I (wt 0)).length cv)) (ds := []) #[false, false, false, false, false, false, false, false, false, false, false, false, false, false, false] (by kernel_rfl) rfl rfl ⟨hc10, hcW⟩ (fun hHeld => ?_)
          generalize wc.drew = w40 at HM4 hHeld ⊢
          refine pure_ (i := 5) (N := some 98) (v := ?_) (a' := ?_) #[false, false, false, false, false, true, false, false, false, false, false, false, false, false, false] rfl rfl (by kernel_rfl) (fun _ _ _ h => h) (Or.inl ⟨by rfl, ?_⟩) ?_ ?_
          rotate_left
          · intro w'
            go_simp
            with_reducible rfl
          rotate_left
          · simp only [Act.put, List.setIfInBounds_toArray, List.set_cons_zero, List.set_cons_succ, i64_w, i32_w]
            rfl
          refine pure_ (i := 6) (N := some 99) (v := ?_) (a' := ?_) #[false, false, false, false, false, true, true, false, false, false, false, false, false, false, false] rfl rfl (by kernel_rfl) (fun _ _ _ h => h) (Or.inl ⟨by rfl, ?_⟩) ?_ ?_
          rotate_left
          · intro w'
            go_simp
            with_reducible rfl
          rotate_left
          · simp only [Act.put, List.setIfInBounds_toArray, List.set_cons_zero, List.set_cons_succ, i64_w, i32_w]
            rfl
          refine take_ (i := 1) (N := some 94) (v := ?_) (a' := ?_) #[false, true, false, false, false, true, true, false, false, false, false, false, false, false, false] rfl rfl (by kernel_rfl) (fun _ _ _ h => h) (Or.inl ⟨by rfl, ?_⟩) hHeld ?_ ?_
          rotate_left
          · rintro w' ⟨s0, s1⟩
            go_simp
            with_reducible rfl
          rotate_left
          · simp only [Act.put, List.setIfInBounds_toArray, List.set_cons_zero, List.set_cons_succ, i64_w, i32_w]
            rfl
          refine pure_ (i := 2) (N := some 95) (v := ?_) (a' := ?_) #[false, true, true, false, false, true, true, false, false, false, false, false, false, false, false] rfl rfl (by kernel_rfl) (fun _ _ _ h => h) (Or.inl ⟨by rfl, ?_⟩) ?_ ?_
          rotate_left
          · intro w'
            go_simp
            with_reducible rfl
          rotate_left
          · simp only [Act.put, List.setIfInBounds_toArray, List.set_cons_zero, List.set_cons_succ, i64_w, i32_w]
            rfl
          refine take_ (i := 3) (N := some 96) (v := ?_) (a' := ?_) #[false, true, true, true, false, true, true, false, false, false, false, false, false, false, false] rfl rfl (by kernel_rfl) (fun _ _ _ h => h) (Or.inl ⟨by rfl, ?_⟩) hHeld ?_ ?_
          rotate_left
          · rintro w' ⟨s0, s1⟩
            go_simp
            with_reducible rfl
          rotate_left
          · simp only [Act.put, List.setIfInBounds_toArray, List.set_cons_zero, List.set_cons_succ, i64_w, i32_w]
            rfl
          refine one_ (i := 0) (N := some 93) #[true, true, true, true, false, true, true, false, false, false, false, false, false, false, false] rfl rfl (by kernel_rfl) (by decide) (fun K hK => ?_)
          refine HM4.loadAllStep 1 (by rfl) 25 (.tmp 4) rfl _ rfl Try.underlying25 rfl (by exact infoA4) rfl ?_
          refine hK.out _ _ ⟨(HM4.cell (i := 0) rfl 0).1, (by have h := (HM4.rowCell zS (i := 2) rfl (j := 0) (by rw [HPL.out]; omega)).1; rw [HEV.out] at h; exact h)⟩ (fun hHeld => ?_)
          clear hK K
          refine norm_ (a' := ?_) ?_ ?_
          rotate_left
          · show Act.put _ (some 93) _ = _
            simp only [Act.put, List.setIfInBounds_toArray, List.set_cons_zero, List.set_cons_succ, i64_w, i32_w]
            rfl
          refine one_ (i := 4) (N := some 97) #[true, true, true, true, true, true, true, false, false, false, false, false, false, false, false] rfl rfl (by kernel_rfl) (by decide) (fun K hK => ?_)
          refine goes_ Try.func35 (by kernel_rfl) rfl #[.agg #[.int .i64 base, .int .i64 tracks, .slice Ao2 T'.length co2, .slice Ao3 ends'.length co3], .slice Av (I (wt 0)).length cv] (by rfl) rfl rfl (by simp only [List.map_toArray, List.map_cons, List.map_nil]; rfl) ?_
          have hq := HM4.two_ (i := 3) rfl
          have hcC : kI.C w40 Av (I (wt 0)).length (I (wt 0)) := (by obtain ⟨Av', cv', ev', _, hC'⟩ := HM4.rowSlice (i := 4) (rows_at (d := kI) (e := 3) (f := fun j => encS (P.getD j zS)) (g := fun j => I (wt j)) (show 0 < n' by omega)); rw [HEV.out] at ev'; injection ev' with e1 e2 e3; rw [e1]; exact hC')
          have hcl := Go.Proofs.Ytlffephcbfdknaa.PSomeTakes.some_closure.calls kc base tracks Ao2 co2 (II T') Ao3 co3 ends' Av cv (I (wt 0)) (I fs) w40 (Kd.R_reads' hq.1).2.2 (by rw [II_len]; exact (Kd.R_reads' hq.1).2.1) (Kd.R_reads' hq.2).2.2 (Kd.R_reads' hq.2).2.1 hcC HCV.out HKC.out
          rw [II_len] at hcl
          refine hcl.mono ?_
          rintro e w41 ⟨v97, rfl, hr, hb⟩
          refine ⟨_, rfl, ?_⟩
          have HM5 := HM4.row_ hb hr
          clear HM4 hb hr hq hcC hcl
          refine hK.out _ _ ⟨(HM5.cell (i := 1) rfl 0).1, (by have h := (HM5.rowCell zS (i := 3) rfl (j := 0) (by rw [HPL.out]; omega)).1; rw [HEV.out] at h; exact h)⟩ (fun hHeld => ?_)
          clear hK K
          refine norm_ (a' := ?_) ?_ ?_
          rotate_left
          · show Act.put _ (some 97) _ = _
            simp only [Act.put, List.setIfInBounds_toArray, List.set_cons_zero, List.set_cons_succ, i64_w, i32_w]
            rfl
          refine one_ (i := 7) (N := some 100) #[true, true, true, true, true, true, true, true, false, false, false, false, false, false, false] rfl rfl (by kernel_rfl) (by decide) (fun K hK => ?_)
          refine goes_ Try.func34 (by kernel_rfl) rfl #[v97, .int .i64 (n' : Int), (.func (.func 49) #[] #[.pointer (some ⟨g10, 0, none⟩), .pointer (some ⟨g4, 0, none⟩)])] (by rfl) rfl rfl (by simp only [List.map_toArray, List.map_cons, List.map_nil]; rfl) ?_
          refine (grow_calls fs HF256.out (by omega) n' (by omega) (outS T' wt) (fun X => X.length ≤ 256 ∧ ∀ x ∈ X, x < T'.length) HG0.out v97 (.func (.func 49) #[] #[.pointer (some ⟨g10, 0, none⟩), .pointer (some ⟨g4, 0, none⟩)]) HM5 HS.out).mono ?_
          rintro e w42 ⟨O, hO, hcase⟩
          rw [HO.out] at hO
          subst hO
          rw [HR.out] at hcase
          have hc2 : ∃ vs vn : Value, e = .returned (.tuple #[vs, vn, .bool true]) ∧ Mem W.heap.size (fun _ => False) W w42 (row kL 26 vs (II O) :: row kL 26 vn (II (rowsTo (sN base tracks) (stepS T' (sW base tracks tr)) O O.length)) :: blk g10 #[.slice (some ⟨gW, 0, none⟩) n' capW] 22 :: blk g4 #[.int .i64 base, .int .i64 tracks, .slice Ao2 T'.length co2, .slice Ao3 ends'.length co3] 25 :: row kS 26 (.slice (some ⟨gW, 0, none⟩) n' capW) P :: two (row kL 26 (.slice Ao2 T'.length co2) (II T')) (row kB 4 (.slice Ao3 ends'.length co3) ends') :: rows kI 3 n' (fun j => encS (P.getD j zS)) (fun j => I (wt j))) := (by rcases hcase with ⟨_, h⟩ | ⟨h, _⟩; (exact h); (exact absurd h HBIG.out))
          obtain ⟨vs, vn, rfl, HM6⟩ := hc2
          clear hcase
          refine ⟨_, rfl, ?_⟩
          clear HM5
          refine hK.out _ _ ⟨(HM6.cell (i := 2) rfl 0).1, (by have h := (HM6.rowCell zS (i := 4) rfl (j := 0) (by rw [HPL.out]; omega)).1; rw [HEV.out] at h; exact h)⟩ (fun hHeld => ?_)
          clear hK K
          refine norm_ (a' := ?_) ?_ ?_
          rotate_left
          · show Act.put _ (some 100) _ = _
            simp only [Act.put, List.setIfInBounds_toArray, List.set_cons_zero, List.set_cons_succ, i64_w, i32_w]
            rfl
          refine pure_ (i := 8) (N := some 92) (v := ?_) (a' := ?_) #[true, true, true, true, true, true, true, true, true, false, false, false, false, false, false] rfl rfl (by kernel_rfl) (fun _ _ _ h => h) (Or.inl ⟨by rfl, ?_⟩) ?_ ?_
          rotate_left
          · intro w'
            go_simp
            with_reducible rfl
          rotate_left
          · simp only [Act.put, List.setIfInBounds_toArray, List.set_cons_zero, List.set_cons_succ, i64_w, i32_w]
            rfl
          refine pure_ (i := 9) (N := some 101) (v := ?_) (a' := ?_) #[true, true, true, true, true, true, true, true, true, true, false, false, false, false, false] rfl rfl (by kernel_rfl) (fun _ _ _ h => h) (Or.inl ⟨by rfl, ?_⟩) ?_ ?_
          rotate_left
          · intro w'
            go_simp
            with_reducible rfl
          rotate_left
          · simp only [Act.put, List.setIfInBounds_toArray, List.set_cons_zero, List.set_cons_succ, i64_w, i32_w]
            rfl
          refine pure_ (i := 10) (N := some 102) (v := ?_) (a' := ?_) #[true, true, true, true, true, true, true, true, true, true, true, false, false, false, false] rfl rfl (by kernel_rfl) (fun _ _ _ h => h) (Or.inl ⟨by rfl, ?_⟩) ?_ ?_
          rotate_left
          · intro w'
            go_simp
            with_reducible rfl
          rotate_left
          · simp only [Act.put, List.setIfInBounds_toArray, List.set_cons_zero, List.set_cons_succ, i64_w, i32_w]
            rfl
          refine pure_ (i := 11) (N := some 103) (v := ?_) (a' := ?_) #[true, true, true, true, true, true, true, true, true, true, true, true, false, false, false] rfl rfl (by kernel_rfl) (fun _ _ _ h => h) (Or.inl ⟨by rfl, ?_⟩) ?_ ?_
          rotate_left
          · intro w'
            go_simp
            with_reducible rfl
          rotate_left
          · simp only [Act.put, List.setIfInBounds_toArray, List.set_cons_zero, List.set_cons_succ, i64_w, i32_w]
            rfl
          refine pure_ (i := 12) (N := some 5) (v := ?_) (a' := ?_) #[true, true, true, true, true, true, true, true, true, true, true, true, true, false, false] rfl rfl (by kernel_rfl) (fun _ _ _ h => h) (Or.inl ⟨by rfl, ?_⟩) ?_ ?_
          rotate_left
          · intro w'
            go_simp
            with_reducible rfl
          rotate_left
          · simp only [Act.put, List.setIfInBounds_toArray, List.set_cons_zero, List.set_cons_succ, i64_w, i32_w]
            rfl
          refine pure_ (i := 13) (N := some 6) (v := ?_) (a' := ?_) #[true, true, true, true, true, true, true, true, true, true, true, true, true, true, false] rfl rfl (by kernel_rfl) (fun _ _ _ h => h) (Or.inl ⟨by rfl, ?_⟩) ?_ ?_
          rotate_left
          · intro w'
            go_simp
            with_reducible rfl
          rotate_left
          · simp only [Act.put, List.setIfInBounds_toArray, List.set_cons_zero, List.set_cons_succ, i64_w, i32_w]
            rfl
          refine pure_ (i := 14) (N := some 17) (v := ?_) (a' := ?_) #[true, true, true, true, true, true, true, true, true, true, true, true, true, true, true] rfl rfl (by kernel_rfl) (fun _ _ _ h => h) (Or.inl ⟨by rfl, ?_⟩) ?_ ?_
          rotate_left
          · intro w'
            go_simp
            with_reducible rfl
          rotate_left
          · simp only [Act.put, List.setIfInBounds_toArray, List.set_cons_zero, List.set_cons_succ, i64_w, i32_w]
            rfl
          refine done_ (by kernel_rfl) ?_
          go_wp2_with (first
            | ((with_reducible refine gate_dst (N := 108) rfl ?_); (refine HM6.loadAll 3 rfl 25 (.tmp 4) rfl _ rfl Try.underlying25 rfl (by exact infoA4) rfl ?_))
            | ((with_reducible refine gate_store (t := 25) (p := 4) rfl ?_); (refine HM6.storeAll 3 rfl rfl 25 (.tmp 4) _ rfl (us := #[.int .i64 base, .int .i64 tracks, .slice Ao2 T'.length co2, .slice Ao3 ends'.length co3]) rfl rfl (one4 rfl rfl rfl rfl) (by exact infoA4) rfl rfl ?_; intro w43 HM7; clear HM6)))
          refine bodyPost_ret (results_list (rs := [.cell 4 25, .tmp 5, .tmp 6, .tmp 7]) rfl (by simp) (.cell g4 25 _ (0, 0) _ rfl (HM7.blkAt (i := 3) rfl).1 Try.underlying25 rfl infoA4 (.tmp (.tmp (.tmp .nil))))) (by rfl) ?_
          have hq := HM7.two_ (i := 5) rfl
          have hvs := HM7.rowAt (i := 0) rfl
          have hvn := HM7.rowAt (i := 1) rfl
          refine ⟨HM7.below, .inl ⟨n, T, (T', ends'), tr, HOK.out, HCAN.out, rfl, htl, (by show (sO base tracks tr T').length ≤ 2000; rw [← HOO.out]; have := HBIG.out; omega), _, _, vs, vn, rfl, hq.1, hq.2, ?_, ?_⟩⟩
          · rw [← HOO.out]; exact hvs
          · rw [← HOO.out]; exact hvn
    · have hbad : track < 0 ∨ tracks ≤ track := by omega
      have HBAD := Aside0.mk hbad
      clear htr
      by_cases hneg : track < 0
      · go_enter Try.func28, Try.ntmps28
        go_wp2_with (first
          | ((with_reducible refine gate_dst (N := 2) rfl ?_); refine box_event ?hg (N := 2) ?hd (cs := #[.int .i64 base, .int .i64 tracks, .slice A2 l2.length c2, .slice A3 l3.length c3]) (t := 25) ?hr ?_; (case hd => rfl); (case hg => rfl); (case hr => first | (go_simp; done) | (go_simp; rfl)); intro g2 hg1 w1 hb hbel; have HM1 := HM.blk_ hg1 hb hbel; clear HM hg1 hb hbel)
          | ((with_reducible refine gate_dst (N := 4) rfl ?_); refine box_event ?hg (N := 4) ?hd (cs := #[.int .i64 0, .int .i64 0, .slice none 0 0, .slice none 0 0]) (t := 25) ?hr ?_; (case hd => rfl); (case hg => rfl); (case hr => first | (go_simp; done) | (go_simp; rfl)); intro g4 hg2 w2 hb hbel; have HM2 := HM1.blk_ hg2 hb hbel; clear HM1 hg2 hb hbel)
          | ((with_reducible refine gate_dst (N := 19) rfl ?_); (refine HM2.loadAll 1 rfl 25 (.tmp 2) rfl _ rfl Try.underlying25 rfl (by exact infoA4) rfl ?_))
          | (go_at_call 10; (refine (least_calls base tracks A2 c2 l2 A3 c3 l3 _ (Kd.C_below HC2.out HM2.below) H2.out (Kd.C_below HC3.out HM2.below) H3.out).mono ?_; rintro e w3 ⟨hb, hcase⟩; rcases hcase with ⟨n', T', out, v2, v3, _, _, rfl, hr2, hr3⟩ | ⟨hno, _⟩; rotate_left; (exact absurd ⟨n, T, HOK.out⟩ hno); obtain ⟨Ao2, co2, rfl⟩ := Kd.R_slice hr2; obtain ⟨Ao3, co3, rfl⟩ := Kd.R_slice hr3; have HM3 := HM2.rows2 hb hr2 hr3; clear HM2 hb hr2 hr3))
          | ((with_reducible refine gate_store (t := 25) (p := 4) rfl ?_); (first
            | (refine HM3.storeAll 1 rfl rfl 25 (.tmp 4) _ rfl (us := #[.int .i64 base, .int .i64 tracks, .slice Ao2 (II out.1).length co2, .slice Ao3 out.2.length co3]) rfl rfl (one4 rfl rfl rfl rfl) (by exact infoA4) rfl rfl ?_; intro w4 HM4; clear HM3)
            | (refine HM4.storeAll 1 rfl rfl 25 (.tmp 4) _ rfl (us := #[.int .i64 base, .int .i64 tracks, .slice Ao2 (II out.1).length co2, .slice Ao3 out.2.length co3]) rfl rfl (one4 rfl rfl rfl rfl) (by exact infoA4) rfl rfl ?_; intro w5 HM5; clear HM4)))
          | ((with_reducible refine gate_dst (N := 35) rfl ?_); (refine HM4.loadAll 1 rfl 25 (.tmp 4) rfl _ rfl Try.underlying25 rfl (by exact infoA4) rfl ?_)))
        refine bodyPost_ret (results_list (rs := [.cell 4 25, .tmp 5, .tmp 6, .tmp 7]) rfl (by simp) (.cell g4 25 _ (0, 0) _ rfl (HM5.blkAt (i := 1) rfl).1 Try.underlying25 rfl infoA4 (.tmp (.tmp (.tmp .nil))))) (by rfl) ?_
        exact ⟨HM5.below, .inr ⟨1, _, _, _, _, _, _, _, _, .inl rfl, rfl, .inr (.inl ⟨rfl, HBAD.out, n, T, HOK.out⟩)⟩⟩
      · have hge : tracks ≤ track := by omega
        go_enter Try.func28, Try.ntmps28
        go_wp2_with (first
          | ((with_reducible refine gate_dst (N := 2) rfl ?_); refine box_event ?hg (N := 2) ?hd (cs := #[.int .i64 base, .int .i64 tracks, .slice A2 l2.length c2, .slice A3 l3.length c3]) (t := 25) ?hr ?_; (case hd => rfl); (case hg => rfl); (case hr => first | (go_simp; done) | (go_simp; rfl)); intro g2 hg1 w1 hb hbel; have HM1 := HM.blk_ hg1 hb hbel; clear HM hg1 hb hbel)
          | ((with_reducible refine gate_dst (N := 4) rfl ?_); refine box_event ?hg (N := 4) ?hd (cs := #[.int .i64 0, .int .i64 0, .slice none 0 0, .slice none 0 0]) (t := 25) ?hr ?_; (case hd => rfl); (case hg => rfl); (case hr => first | (go_simp; done) | (go_simp; rfl)); intro g4 hg2 w2 hb hbel; have HM2 := HM1.blk_ hg2 hb hbel; clear HM1 hg2 hb hbel)
          | ((with_reducible refine gate_dst (N := 19) rfl ?_); (refine HM2.loadAll 1 rfl 25 (.tmp 2) rfl _ rfl Try.underlying25 rfl (by exact infoA4) rfl ?_))
          | (go_at_call 10; (refine (least_calls base tracks A2 c2 l2 A3 c3 l3 _ (Kd.C_below HC2.out HM2.below) H2.out (Kd.C_below HC3.out HM2.below) H3.out).mono ?_; rintro e w3 ⟨hb, hcase⟩; rcases hcase with ⟨n', T', out, v2, v3, _, _, rfl, hr2, hr3⟩ | ⟨hno, _⟩; rotate_left; (exact absurd ⟨n, T, HOK.out⟩ hno); obtain ⟨Ao2, co2, rfl⟩ := Kd.R_slice hr2; obtain ⟨Ao3, co3, rfl⟩ := Kd.R_slice hr3; have HM3 := HM2.rows2 hb hr2 hr3; clear HM2 hb hr2 hr3))
          | ((with_reducible refine gate_store (t := 25) (p := 4) rfl ?_); (first
            | (refine HM3.storeAll 1 rfl rfl 25 (.tmp 4) _ rfl (us := #[.int .i64 base, .int .i64 tracks, .slice Ao2 (II out.1).length co2, .slice Ao3 out.2.length co3]) rfl rfl (one4 rfl rfl rfl rfl) (by exact infoA4) rfl rfl ?_; intro w4 HM4; clear HM3; have hc1 : w4.cell? ⟨g2, 1, none⟩ = some (.int .i64 tracks) := (HM4.cell (i := 2) rfl 1).1)
            | (refine HM4.storeAll 1 rfl rfl 25 (.tmp 4) _ rfl (us := #[.int .i64 base, .int .i64 tracks, .slice Ao2 (II out.1).length co2, .slice Ao3 out.2.length co3]) rfl rfl (one4 rfl rfl rfl rfl) (by exact infoA4) rfl rfl ?_; intro w5 HM5; clear HM4)))
          | ((with_reducible refine gate_dst (N := 35) rfl ?_); (refine HM4.loadAll 1 rfl 25 (.tmp 4) rfl _ rfl Try.underlying25 rfl (by exact infoA4) rfl ?_)))
        refine bodyPost_ret (results_list (rs := [.cell 4 25, .tmp 5, .tmp 6, .tmp 7]) rfl (by simp) (.cell g4 25 _ (0, 0) _ rfl (HM5.blkAt (i := 1) rfl).1 Try.underlying25 rfl infoA4 (.tmp (.tmp (.tmp .nil))))) (by rfl) ?_
        exact ⟨HM5.below, .inr ⟨1, _, _, _, _, _, _, _, _, .inl rfl, rfl, .inr (.inl ⟨rfl, HBAD.out, n, T, HOK.out⟩)⟩⟩
  · have HNO := Aside0.mk hex
    clear hex
    go_enter Try.func28, Try.ntmps28
    go_wp2_with (first
      | ((with_reducible refine gate_dst (N := 2) rfl ?_); refine box_event ?hg (N := 2) ?hd (cs := #[.int .i64 base, .int .i64 tracks, .slice A2 l2.length c2, .slice A3 l3.length c3]) (t := 25) ?hr ?_; (case hd => rfl); (case hg => rfl); (case hr => first | (go_simp; done) | (go_simp; rfl)); intro g2 hg1 w1 hb hbel; have HM1 := HM.blk_ hg1 hb hbel; clear HM hg1 hb hbel)
      | ((with_reducible refine gate_dst (N := 4) rfl ?_); refine box_event ?hg (N := 4) ?hd (cs := #[.int .i64 0, .int .i64 0, .slice none 0 0, .slice none 0 0]) (t := 25) ?hr ?_; (case hd => rfl); (case hg => rfl); (case hr => first | (go_simp; done) | (go_simp; rfl)); intro g4 hg2 w2 hb hbel; have HM2 := HM1.blk_ hg2 hb hbel; clear HM1 hg2 hb hbel)
      | ((with_reducible refine gate_dst (N := 19) rfl ?_); (refine HM2.loadAll 1 rfl 25 (.tmp 2) rfl _ rfl Try.underlying25 rfl (by exact infoA4) rfl ?_))
      | (go_at_call 10; (refine (least_calls base tracks A2 c2 l2 A3 c3 l3 _ (Kd.C_below HC2.out HM2.below) H2.out (Kd.C_below HC3.out HM2.below) H3.out).mono ?_; rintro e w3 ⟨hb, hcase⟩; rcases hcase with ⟨n, T, _, _, _, hok, _⟩ | ⟨_, x, hx, rfl⟩; (exact absurd ⟨n, T, hok⟩ HNO.out); have HX := Aside0.mk hx; have HM3 := HM2.grow hb; clear HM2 hb hx; simp only [errW_some]))
      | ((with_reducible refine gate_store (t := 25) (p := 4) rfl ?_); (first
        | (refine HM3.storeAll 0 rfl rfl 25 (.tmp 4) _ rfl (us := #[.int .i64 0, .int .i64 0, .slice none 0 0, .slice none 0 0]) rfl rfl (one4 rfl rfl rfl rfl) (by exact infoA4) rfl rfl ?_; intro w4 HM4; clear HM3)
        | (refine HM4.storeAll 0 rfl rfl 25 (.tmp 4) _ rfl (us := #[.int .i64 0, .int .i64 0, .slice none 0 0, .slice none 0 0]) rfl rfl (one4 rfl rfl rfl rfl) (by exact infoA4) rfl rfl ?_; intro w5 HM5; clear HM4)))
      | ((with_reducible refine gate_dst (N := 25) rfl ?_); (refine HM4.loadAll 0 rfl 25 (.tmp 4) rfl _ rfl Try.underlying25 rfl (by exact infoA4) rfl ?_)))
    refine bodyPost_ret (results_list (rs := [.cell 4 25, .tmp 5, .tmp 6, .tmp 7]) rfl (by simp) (.cell g4 25 _ (0, 0) _ rfl (HM5.blkAt (i := 0) rfl).1 Try.underlying25 rfl infoA4 (.tmp (.tmp (.tmp .nil))))) (by rfl) ?_
    exact ⟨HM5.below, .inr ⟨x, _, _, _, _, _, _, _, _, HX.out, rfl, .inl HNO.out⟩⟩
end Go.Proofs.Ytlffephcbfdknaa.Wk

/- Walk by hand: some.Some, some.Sets. -/
set_option linter.unusedVariables false
set_option linter.unusedSimpArgs false
namespace Go.Proofs.Ytlffephcbfdknaa.Wk
open Go.RowKit Go.Proofs.YtlffephcbfdknaaW.PrintWords Go.Proofs.YtlffephcbfdknaaW.PrintMore Go.Proofs.YtlffephcbfdknaaW.PrintLast Go.Proofs.Sep Go.Proofs.Fil Go.Proofs.Ytlffephcbfdknaa.Chk Go.Proofs.Ytlffephcbfdknaa.PSomeTakes Go.Proofs.Ytlffephcbfdknaa.Tbl

theorem some1_calls (g6 : Nat) (Ae : Option Addr) (ce : Nat) (ends : List Bool) (z : Int) (h0 : 0 ≤ z) (h1 : z < ends.length) (w : World) (hc : w.cell? ⟨g6, 3, none⟩ = some (.slice Ae ends.length ce)) (hC : kB.C w Ae ends.length ends) :
    Calls Try.prog 29 #[.int .i64 z, .pointer (some ⟨g6, 0, none⟩)] w fun e w' => e = .returned (.bool (rdOf false ends z)) ∧ Below w.heap.size w w' := by
  obtain ⟨ad, e1, hcell⟩ := Kd.at_bool hC z h0 h1
  subst e1
  clear hC
  go_enter Try.func29, Try.ntmps29
  go_wp2
  refine bodyPost_ret (results_single rfl (.tmp .nil)) (by rfl) ⟨rfl, Below.refl _ _⟩
theorem asked_ends (W : World) (g6 : Nat) (Ae : Option Addr) (ce : Nat) (ends : List Bool) (X : List Int) (hX : ∀ z ∈ X, 0 ≤ z ∧ z < ends.length) (hc : W.cell? ⟨g6, 3, none⟩ = some (.slice Ae ends.length ce)) (hC : kB.C W Ae ends.length ends) :
    Asked W (.func (.func 29) #[] #[.pointer (some ⟨g6, 0, none⟩)]) (fun z => rdOf false ends z) X :=
  ⟨_, _, _, rfl, Try.func29, by kernel_rfl, rfl, fun z hz w hb => some1_calls g6 Ae ce ends z (hX z hz).1 (hX z hz).2 w (pw_cell_below hb hc) (Kd.C_below hC hb)⟩
theorem eset_I (ends : List Bool) (O : List (List Nat)) : (II O).map (·.any (fun z : Int => rdOf false ends z)) = O.map (eSet ends) := by
  unfold II
  rw [List.map_map]
  refine List.map_congr_left (fun X _ => ?_)
  simp only [Function.comp_apply, I, eSet, List.any_map]
  congr 1
def sA (base tracks : Int) (tr : Nat) (T : Tab) (ends : List Bool) : Tab × List Bool := someA (sN base tracks) T ends (sW base tracks tr) (sW base tracks tr 0)
theorem sA_fst (base tracks : Int) (tr : Nat) (T : Tab) (ends : List Bool) : (sA base tracks tr T ends).1 = rowsTo (sN base tracks) (stepS T (sW base tracks tr)) (sO base tracks tr T) (sO base tracks tr T).length := by unfold sA sO; exact someA_fst _ _ _ _ _
theorem sA_snd (base tracks : Int) (tr : Nat) (T : Tab) (ends : List Bool) : (sA base tracks tr T ends).2 = (sO base tracks tr T).map (eSet ends) := by unfold sA sO; exact someA_snd _ _ _ _ _
theorem sA_wf {base tracks : Int} {tr : Nat} {T : Tab} {ends : List Bool} (h : (sO base tracks tr T).length ≤ 2000) : WF (sN base tracks) (sA base tracks tr T ends).1 (sA base tracks tr T ends).2 := someA_wf h
theorem sO_lt {n : Nat} {T : Tab} {ends : List Bool} (h : WF n T ends) {base tracks : Int} {tr : Nat} (hm : manyN base tracks = some n) (ht : ((tr : Nat) : Int) < tracks) : ∀ X ∈ sO base tracks tr T, ∀ x ∈ X, x < T.length := by
  have hpos : 0 < sN base tracks := Nat.pow_pos (many_range hm).2.2.2.2.2
  have hw : ∀ l, l < sN base tracks → ∀ k ∈ sW base tracks tr l, k < n := wtab_lt hm ht
  refine bfsI_inv (succs (sN base tracks) (stepS T (sW base tracks tr))) _ (P := fun X => ∀ x ∈ X, x < T.length) (fun x hx => clo_lt h (hw 0 hpos) x (mem_nrm.1 hx).2) (fun X hX Y hY => ?_) 2001
  obtain ⟨l, hl, rfl⟩ := List.mem_map.1 hY
  exact fun x hx => stepS_lt h hw hX (List.mem_range.1 hl) x hx
/-- What Some answers. -/
def SomePost (base tracks : Int) (l2 : List (List Int)) (l3 : List Bool) (track : Int) (B : Nat) (e : Ending) (w' : World) : Prop :=
  (∃ n T out tr m, Ok base tracks l2 l3 n T ∧ Go.Proofs.Fil.Can n (lof n (T, l3) 0) out ∧ track = ((tr : Nat) : Int) ∧ track < tracks ∧ (sO base tracks tr out.1).length ≤ 2000 ∧ Go.Proofs.Fil.Can (sN base tracks) (lof (sN base tracks) (sA base tracks tr out.1 out.2) 0) m ∧ m.1.length ≤ 80 ∧
    ∃ v2 v3, e = .returned (.tuple #[.agg #[.int .i64 base, .int .i64 (tracks - 1), v2, v3], .nilIface]) ∧ kL.R 26 w' B (fun _ => True) v2 (II m.1) ∧ kB.R 4 w' B (fun _ => True) v3 m.2) ∨
  (∃ x, (x = 1 ∨ x = 2 ∨ x = 3 ∨ x = 4) ∧ e = .returned (.tuple #[.agg #[.int .i64 0, .int .i64 0, .slice none 0 0, .slice none 0 0], errW (some x)]) ∧
    ((¬ ∃ n T, Ok base tracks l2 l3 n T) ∨ (x = 1 ∧ (track < 0 ∨ tracks ≤ track) ∧ ∃ n T, Ok base tracks l2 l3 n T) ∨
      (x = 3 ∧ ∃ n T out tr, Ok base tracks l2 l3 n T ∧ Go.Proofs.Fil.Can n (lof n (T, l3) 0) out ∧ track = ((tr : Nat) : Int) ∧ track < tracks ∧
        (2000 < (sO base tracks tr out.1).length ∨ ((sO base tracks tr out.1).length ≤ 2000 ∧ ∃ m, Go.Proofs.Fil.Can (sN base tracks) (lof (sN base tracks) (sA base tracks tr out.1 out.2) 0) m ∧ 80 < m.1.length)))))

set_option maxRecDepth 100000 in
set_option maxHeartbeats 4000000 in
theorem some_calls (base tracks : Int) (A2 : Option Addr) (c2 : Nat) (l2 : List (List Int)) (A3 : Option Addr) (c3 : Nat) (l3 : List Bool) (track : Int) (W : World) (hC2 : kL.C W A2 l2.length l2) (h2 : l2.length ≤ c2) (hC3 : kB.C W A3 l3.length l3) (h3 : l3.length ≤ c3) :
    Calls Try.prog 12 #[.agg #[.int .i64 base, .int .i64 tracks, .slice A2 l2.length c2, .slice A3 l3.length c3], .int .i64 track] W fun e w' => Below W.heap.size W w' ∧
      SomePost base tracks l2 l3 track W.heap.size e w' := by
  have HC2 := Aside0.mk hC2
  have HC3 := Aside0.mk hC3
  have H2 := Aside0.mk h2
  have H3 := Aside0.mk h3
  clear hC2 hC3 h2 h3
  have HM := Mem.start W
  by_cases hno : (∃ n T out tr, Ok base tracks l2 l3 n T ∧ Go.Proofs.Fil.Can n (lof n (T, l3) 0) out ∧ track = ((tr : Nat) : Int) ∧ track < tracks ∧ (sO base tracks tr out.1).length ≤ 2000)
  · obtain ⟨n, T, out, tr, hok, hcan, rfl, htl, hO2⟩ := hno
    obtain ⟨hb1, hb6, ht0, ht5, _, _⟩ := many_range hok.many
    have hn := manyN_le (many_less hok.many (by omega))
    have HN36 := Aside0.mk (show 1 ≤ sN base tracks ∧ sN base tracks ≤ 36 from hn)
    have HOK := Aside0.mk hok
    have HCAN := Aside0.mk hcan
    have HO2 := Aside0.mk hO2
    obtain ⟨O, hOO⟩ : ∃ O, O = sO base tracks tr out.1 := ⟨_, rfl⟩
    obtain ⟨TA, hTA⟩ : ∃ TA, TA = sA base tracks tr out.1 out.2 := ⟨_, rfl⟩
    have HOO := Aside0.mk hOO
    have HTA := Aside0.mk hTA
    have HOL := Aside0.mk (show O.length ≤ 2000 by rw [hOO]; exact hO2)
    have HEE := Aside0.mk (show TA.2 = O.map (eSet out.2) by rw [hTA, hOO]; exact sA_snd base tracks tr out.1 out.2)
    have HWFA := Aside0.mk (show WF (sN base tracks) TA.1 TA.2 by rw [hTA]; exact sA_wf hO2)
    have HTAL := Aside0.mk (show TA.1.length ≤ 2000 by rw [← HWFA.out.len, HEE.out, List.length_map]; exact HOL.out)
    have HOX := Aside0.mk (show ∀ s ∈ II O, ∀ z ∈ s, 0 ≤ z ∧ z < (out.2.length : Int) from fun s hs z hz => by
      obtain ⟨X, hX, rfl⟩ := List.mem_map.1 hs
      obtain ⟨x, hx, rfl⟩ := List.mem_map.1 hz
      rw [hOO] at hX
      have h1 := sO_lt hcan.wf hok.many htl X hX x hx
      have h2 := hcan.wf.len
      exact ⟨by omega, by omega⟩)
    clear hOO hTA hok hcan hO2 hn
    by_cases h80 : ∃ m, Go.Proofs.Fil.Can (sN base tracks) (lof (sN base tracks) TA 0) m ∧ m.1.length ≤ 80
    · have H80 := Aside0.mk h80
      clear h80
      go_enter Try.func12, Try.ntmps12
      go_wp2_with (first
        | ((with_reducible refine gate_dst (N := 2) rfl ?_); refine box_event ?hg (N := 2) ?hd (cs := #[.int .i64 base, .int .i64 tracks, .slice A2 l2.length c2, .slice A3 l3.length c3]) (t := 25) ?hr ?_; (case hd => rfl); (case hg => rfl); (case hr => first | (go_simp; done) | (go_simp; rfl)); intro g2 hg1 w1 hb1 hbel; have HM1 := HM.blk_ hg1 hb1 hbel; clear HM hg1 hb1 hbel)
        | ((with_reducible refine gate_dst (N := 4) rfl ?_); refine box_event ?hg (N := 4) ?hd (cs := #[.int .i64 0, .int .i64 0, .slice none 0 0, .slice none 0 0]) (t := 25) ?hr ?_; (case hd => rfl); (case hg => rfl); (case hr => first | (go_simp; done) | (go_simp; rfl)); intro g4 hg2 w2 hb2 hbel; have HM2 := HM1.blk_ hg2 hb2 hbel; clear HM1 hg2 hb2 hbel)
        | ((with_reducible refine gate_dst (N := 13) rfl ?_); (refine HM2.loadAll 1 rfl 25 (.tmp 2) rfl _ rfl Try.underlying25 rfl (by exact infoA4) rfl ?_))
        | (go_at_call 28; (refine (left_calls base tracks A2 c2 l2 A3 c3 l3 _ _ (Kd.C_below HC2.out HM2.below) H2.out (Kd.C_below HC3.out HM2.below) H3.out).mono ?_; rintro e w3 ⟨hb, hcase⟩; have hcase2 : ∃ va vb vs vn : Value, e = .returned (.tuple #[.agg #[.int .i64 base, .int .i64 tracks, va, vb], vs, vn, .nilIface]) ∧ kL.R 26 w3 w2.heap.size (fun _ => True) va (II out.1) ∧ kB.R 4 w3 w2.heap.size (fun _ => True) vb out.2 ∧ kL.R 26 w3 w2.heap.size (fun _ => True) vs (II O) ∧ kL.R 26 w3 w2.heap.size (fun _ => True) vn (II TA.1) := (by rw [HTA.out, sA_fst, HOO.out]; rcases hcase with ⟨n2, T2, out2, tr2, h1, h2, h3, _, _, h5⟩ | ⟨x, _, _, _, _, _, _, _, _, _, _, h1 | ⟨_, h1, _⟩ | ⟨_, n2, T2, out2, tr2, h1, h2, h3, _, h4⟩⟩; (obtain rfl : tr = tr2 := by omega); (obtain ⟨rfl, rfl, rfl⟩ := can_uniq HOK.out HCAN.out h1 h2; exact h5); (exact absurd ⟨n, T, HOK.out⟩ h1); (exact absurd h1 (by omega)); (obtain rfl : tr = tr2 := by omega); (obtain ⟨rfl, rfl, rfl⟩ := can_uniq HOK.out HCAN.out h1 h2; exact absurd h4 (by have := HO2.out; omega))); obtain ⟨va, vb, vs, vn, rfl, hr1, hr2, hr3, hr4⟩ := hcase2; clear hcase; obtain ⟨Am, cm, rfl⟩ := Kd.R_slice hr1; obtain ⟨Ae, ce, rfl⟩ := Kd.R_slice hr2; obtain ⟨As, cs, rfl⟩ := Kd.R_slice hr3; obtain ⟨An, cn, rfl⟩ := Kd.R_slice hr4; have HM3 := HM2.rows4 hb hr1 hr2 hr3 hr4; rw [II_len (m := out.1)] at HM3 ⊢; clear HM2 hb hr1 hr2 hr3 hr4))
        | ((with_reducible refine gate_dst (N := 6) rfl ?_); refine box_event ?hg (N := 6) ?hd (cs := #[.int .i64 0, .int .i64 0, .slice none 0 0, .slice none 0 0]) (t := 25) ?hr ?_; (case hd => rfl); (case hg => rfl); (case hr => first | (go_simp; done) | (go_simp; rfl)); intro g6 hg6 w6 hb6 hbel; have HM4 := HM3.blk_ hg6 hb6 hbel; clear HM3 hg6 hb6 hbel)
        | ((with_reducible refine gate_store (t := 25) (p := 6) rfl ?_); (refine HM4.storeAll 0 rfl rfl 25 (.tmp 6) _ rfl (us := #[.int .i64 base, .int .i64 tracks, .slice Am out.1.length cm, .slice Ae out.2.length ce]) rfl rfl (one4 rfl rfl rfl rfl) (by exact infoA4) rfl rfl ?_; intro w7 HM5; clear HM4)))
      have hc0 : w7.cell? ⟨g2, 0, none⟩ = some (.int .i64 base) := (HM5.cell (i := 3) rfl 0).1
      have hc1 : w7.cell? ⟨g2, 1, none⟩ = some (.int .i64 tracks) := (HM5.cell (i := 3) rfl 1).1
      have HM6 := HM5.grow (Below.refl _ _).drew
      clear HM5
      refine start_ (n := 16) (S := fun w' => w'.cell? ⟨g2, 0, none⟩ = some (.int .i64 base) ∧ w'.cell? ⟨g2, 1, none⟩ = some (.int .i64 tracks)) (ds := [14]) #[false, false, false, false, false, false, false, false, false, false, false, false, false, false, false, false] (by kernel_rfl) rfl rfl ⟨hc0, hc1⟩ (fun hHeld => ?_)
      generalize w7.drew = w8 at HM6 hHeld ⊢
      refine pure_ (i := 0) (N := some 25) (v := ?_) (a' := ?_) #[true, false, false, false, false, false, false, false, false, false, false, false, false, false, false, false] rfl rfl (by kernel_rfl) (fun _ _ _ h => h) (Or.inl ⟨by rfl, ?_⟩) ?_ ?_
      rotate_left
      · intro w'
        go_simp
        with_reducible rfl
      rotate_left
      · simp only [Act.put, List.setIfInBounds_toArray, List.set_cons_zero, List.set_cons_succ, i64_w, i32_w]
        rfl
      refine pure_ (i := 2) (N := some 27) (v := ?_) (a' := ?_) #[true, false, true, false, false, false, false, false, false, false, false, false, false, false, false, false] rfl rfl (by kernel_rfl) (fun _ _ _ h => h) (Or.inl ⟨by rfl, ?_⟩) ?_ ?_
      rotate_left
      · intro w'
        go_simp
        with_reducible rfl
      rotate_left
      · simp only [Act.put, List.setIfInBounds_toArray, List.set_cons_zero, List.set_cons_succ, i64_w, i32_w]
        rfl
      refine pure_ (i := 5) (N := some 30) (v := ?_) (a' := ?_) #[true, false, true, false, false, true, false, false, false, false, false, false, false, false, false, false] rfl rfl (by kernel_rfl) (fun _ _ _ h => h) (Or.inl ⟨by rfl, ?_⟩) ?_ ?_
      rotate_left
      · intro w'
        go_simp
        with_reducible rfl
      rotate_left
      · simp only [Act.put, List.setIfInBounds_toArray, List.set_cons_zero, List.set_cons_succ, i64_w, i32_w]
        rfl
      refine pure_ (i := 6) (N := some 31) (v := ?_) (a' := ?_) #[true, false, true, false, false, true, true, false, false, false, false, false, false, false, false, false] rfl rfl (by kernel_rfl) (fun _ _ _ h => h) (Or.inl ⟨by rfl, ?_⟩) ?_ ?_
      rotate_left
      · intro w'
        go_simp
        with_reducible rfl
      rotate_left
      · simp only [Act.put, List.setIfInBounds_toArray, List.set_cons_zero, List.set_cons_succ, i64_w, i32_w]
        rfl
      refine pure_ (i := 7) (N := some 32) (v := ?_) (a' := ?_) #[true, false, true, false, false, true, true, true, false, false, false, false, false, false, false, false] rfl rfl (by kernel_rfl) (fun _ _ _ h => h) (Or.inl ⟨by rfl, ?_⟩) ?_ ?_
      rotate_left
      · intro w'
        go_simp
        with_reducible rfl
      rotate_left
      · simp only [Act.put, List.setIfInBounds_toArray, List.set_cons_zero, List.set_cons_succ, i64_w, i32_w]
        rfl
      refine take_ (i := 1) (N := some 26) (v := ?_) (a' := ?_) #[true, true, true, false, false, true, true, true, false, false, false, false, false, false, false, false] rfl rfl (by kernel_rfl) (fun _ _ _ h => h) (Or.inl ⟨by rfl, ?_⟩) hHeld ?_ ?_
      rotate_left
      · rintro w' ⟨s0, s1⟩
        go_simp
        with_reducible rfl
      rotate_left
      · simp only [Act.put, List.setIfInBounds_toArray, List.set_cons_zero, List.set_cons_succ, i64_w, i32_w]
        rfl
      refine take_ (i := 3) (N := some 28) (v := ?_) (a' := ?_) #[true, true, true, true, false, true, true, true, false, false, false, false, false, false, false, false] rfl rfl (by kernel_rfl) (fun _ _ _ h => h) (Or.inl ⟨by rfl, ?_⟩) hHeld ?_ ?_
      rotate_left
      · rintro w' ⟨s0, s1⟩
        go_simp
        with_reducible rfl
      rotate_left
      · simp only [Act.put, List.setIfInBounds_toArray, List.set_cons_zero, List.set_cons_succ, i64_w, i32_w]
        rfl
      refine pure_ (i := 4) (N := some 29) (v := ?_) (a' := ?_) #[true, true, true, true, true, true, true, true, false, false, false, false, false, false, false, false] rfl rfl (by kernel_rfl) (fun _ _ _ h => h) (Or.inl ⟨by rfl, ?_⟩) ?_ ?_
      rotate_left
      · intro w'
        go_simp
        with_reducible rfl
      rotate_left
      · simp only [Act.put, List.setIfInBounds_toArray, List.set_cons_zero, List.set_cons_succ, i64_w, i32_w]
        rfl
      refine join_ (σ := (Option Addr × Nat × Option Addr × Nat) × (Tab × List Bool) × Value × Nat) 2 #[true, true, true, true, true, true, true, true, true, true, true, true, true, true, false, false] (fun s => [(33, s.2.2.1), (34, .tuple #[.agg #[.int .i64 base, .int .i64 (wrap64 (tracks - 1)), .slice s.1.1 (II s.2.1.1).length s.1.2.1, .slice s.1.2.2.1 s.2.1.2.length s.1.2.2.2], .bool true]), (24, .tuple #[.agg #[.int .i64 base, .int .i64 (wrap64 (tracks - 1)), .slice s.1.1 (II s.2.1.1).length s.1.2.1, .slice s.1.2.2.1 s.2.1.2.length s.1.2.2.2], .bool true]), (35, .agg #[.int .i64 base, .int .i64 (wrap64 (tracks - 1)), .slice s.1.1 (II s.2.1.1).length s.1.2.1, .slice s.1.2.2.1 s.2.1.2.length s.1.2.2.2]), (36, .bool true), (10, .pointer (some ⟨s.2.2.2, 0, none⟩))]) (fun s w' => Go.Proofs.Fil.Can (sN base tracks) (lof (sN base tracks) TA 0) s.2.1 ∧ s.2.1.1.length ≤ 80 ∧ Mem W.heap.size (fun _ => False) W w' [blk s.2.2.2 #[.int .i64 0, .int .i64 0, .slice none 0 0, .slice none 0 0] 25, two (row kL 26 (.slice s.1.1 (II s.2.1.1).length s.1.2.1) (II s.2.1.1)) (row kB 4 (.slice s.1.2.2.1 s.2.1.2.length s.1.2.2.2) s.2.1.2), blk g4 #[.int .i64 0, .int .i64 0, .slice none 0 0, .slice none 0 0] 25, blk g2 #[.int .i64 base, .int .i64 tracks, .slice A2 l2.length c2, .slice A3 l3.length c3] 25]) ?_ ?_
      rotate_left
      · intro hCont
        refine two_ (i := 8) (j := 13) (Ni := some 33) (Nj := some 10) #[true, true, true, true, true, true, true, true, true, false, false, false, false, false, false, false] #[true, true, true, true, true, true, true, true, false, false, false, false, false, true, false, false] rfl rfl rfl rfl (by kernel_rfl) (by decide) (by decide) (fun K hK => ?_) (fun K hK => ?_)
        · skip
          refine goes_ Try.func23 (by kernel_rfl) rfl #[.slice As (II O).length cs, (.func (.func 29) #[] #[.pointer (some ⟨g6, 0, none⟩)])] (by rfl) rfl rfl (by simp only [List.map_toArray, List.map_cons, List.map_nil]; rfl) ?_
          have hrs := HM6.four_ (i := 1) rfl
          have hc6 := (HM6.cell (i := 0) rfl 3).1
          refine (ends_calls As cs (II O) (.func (.func 29) #[] #[.pointer (some ⟨g6, 0, none⟩)]) (fun z => rdOf false out.2 z) _ (Kd.R_reads' hrs.2.1).2.2 (by rw [II_len]; have := HOL.out; omega) (fun s hs => asked_ends _ g6 Ae ce out.2 s (HOX.out s hs) hc6 (Kd.R_reads' hrs.1.2).2.2)).mono ?_
          rintro e w9 ⟨vE, rfl, hrE, hb⟩
          rw [eset_I, ← HEE.out] at hrE
          refine ⟨_, rfl, ?_⟩
          replace HM6 := HM6.row_ hb hrE
          clear hb hrE hrs hc6
          refine hK.out _ _ ⟨(HM6.cell (i := 4) rfl 0).1, (HM6.cell (i := 4) rfl 1).1⟩ (fun hHeld => ?_)
          clear hK K
          refine norm_ (a' := ?_) ?_ ?_
          rotate_left
          · show Act.put _ (some 33) _ = _
            simp only [Act.put, List.setIfInBounds_toArray, List.set_cons_zero, List.set_cons_succ, i64_w, i32_w]
            rfl
          refine two_ (i := 9) (j := 13) (Ni := some 34) (Nj := some 10) #[true, true, true, true, true, true, true, true, true, true, false, false, false, false, false, false] #[true, true, true, true, true, true, true, true, true, false, false, false, false, true, false, false] rfl rfl rfl rfl (by kernel_rfl) (by decide) (by decide) (fun K hK => ?_) (fun K hK => ?_)
          · skip
            obtain ⟨AE, cE, eE, _, hCE⟩ := HM6.rowSlice (i := 0) rfl
            subst eE
            refine goes_ Try.func22 (by kernel_rfl) rfl #[.int .i64 base, .int .i64 (wrap64 (tracks - 1)), .slice An (II TA.1).length cn, .slice AE TA.2.length cE] (by rfl) rfl rfl (by simp only [List.map_toArray, List.map_cons, List.map_nil]; rfl) ?_
            have hrs := HM6.four_ (i := 2) rfl
            refine (shrink_calls (sN base tracks) TA.1 TA.2 HWFA.out (by have := HTAL.out; omega) (by have := HN36.out; omega) base (wrap64 (tracks - 1)) An cn AE cE _ (Kd.R_reads' hrs.2.2).2.2 hCE).mono ?_
            rintro e w10 ⟨m, hm, hcase, hb⟩
            have hc2 : m.1.length ≤ 80 ∧ ∃ v2 v3 : Value, e = .returned (.tuple #[.agg #[.int .i64 base, .int .i64 (wrap64 (tracks - 1)), v2, v3], .bool true]) ∧ kL.R 26 w10 w9.heap.size (fun _ => True) v2 (II m.1) ∧ kB.R 4 w10 w9.heap.size (fun _ => True) v3 m.2 := (by rcases hcase with h | ⟨h, _⟩; (exact h); (obtain ⟨m', h1, h2⟩ := H80.out; rw [hm.unique h1] at h; omega))
            obtain ⟨hm80, v2, v3, rfl, hq2, hq3⟩ := hc2
            obtain ⟨A6, c6, rfl⟩ := Kd.R_slice hq2
            obtain ⟨A7, c7, rfl⟩ := Kd.R_slice hq3
            refine ⟨_, rfl, ?_⟩
            replace HM6 := HM6.rows2 hb hq2 hq3
            clear hb hq2 hq3 hcase hrs hCE
            refine hK.out _ _ ⟨(HM6.cell (i := 5) rfl 0).1, (HM6.cell (i := 5) rfl 1).1⟩ (fun hHeld => ?_)
            clear hK K
            refine norm_ (a' := ?_) ?_ ?_
            rotate_left
            · show Act.put _ (some 34) _ = _
              simp only [Act.put, List.setIfInBounds_toArray, List.set_cons_zero, List.set_cons_succ, i64_w, i32_w]
              rfl
            refine pure_ (i := 10) (N := some 24) (v := ?_) (a' := ?_) #[true, true, true, true, true, true, true, true, true, true, true, false, false, false, false, false] rfl rfl (by kernel_rfl) (fun _ _ _ h => h) (Or.inl ⟨by rfl, ?_⟩) ?_ ?_
            rotate_left
            · intro w'
              go_simp
              with_reducible rfl
            rotate_left
            · simp only [Act.put, List.setIfInBounds_toArray, List.set_cons_zero, List.set_cons_succ, i64_w, i32_w]
              rfl
            refine pure_ (i := 11) (N := some 35) (v := ?_) (a' := ?_) #[true, true, true, true, true, true, true, true, true, true, true, true, false, false, false, false] rfl rfl (by kernel_rfl) (fun _ _ _ h => h) (Or.inl ⟨by rfl, ?_⟩) ?_ ?_
            rotate_left
            · intro w'
              go_simp
              with_reducible rfl
            rotate_left
            · simp only [Act.put, List.setIfInBounds_toArray, List.set_cons_zero, List.set_cons_succ, i64_w, i32_w]
              rfl
            refine pure_ (i := 12) (N := some 36) (v := ?_) (a' := ?_) #[true, true, true, true, true, true, true, true, true, true, true, true, true, false, false, false] rfl rfl (by kernel_rfl) (fun _ _ _ h => h) (Or.inl ⟨by rfl, ?_⟩) ?_ ?_
            rotate_left
            · intro w'
              go_simp
              with_reducible rfl
            rotate_left
            · simp only [Act.put, List.setIfInBounds_toArray, List.set_cons_zero, List.set_cons_succ, i64_w, i32_w]
              rfl
            refine one_ (i := 13) (N := some 10) #[true, true, true, true, true, true, true, true, true, true, true, true, true, true, false, false] rfl rfl (by kernel_rfl) (by decide) (fun K hK => ?_)
            refine HM6.boxStep (by rfl) (N := 10) rfl (cs := #[.int .i64 0, .int .i64 0, .slice none 0 0, .slice none 0 0]) (t := 25) ?hr ?_
            (case hr => first | (go_simp; done) | (go_simp; rfl))
            intro g10 w11 HM7
            clear HM6
            have HM6 := HM7
            clear HM7
            refine hK.out _ _ ⟨(HM6.cell (i := 6) rfl 0).1, (HM6.cell (i := 6) rfl 1).1⟩ (fun hHeld => ?_)
            clear hK K
            refine norm_ (a' := ?_) ?_ ?_
            rotate_left
            · show Act.put _ (some 10) _ = _
              simp only [Act.put, List.setIfInBounds_toArray, List.set_cons_zero, List.set_cons_succ, i64_w, i32_w]
              rfl
            exact norm_ (by simp only [putAll, Act.put, List.setIfInBounds_toArray, List.set_cons_zero, List.set_cons_succ]) (hCont ⟨⟨A6, c6, A7, c7⟩, m, (.slice AE TA.2.length cE), g10⟩ _ ⟨hm, hm80, (((((((HM6.drop 2).drop 2).drop 2).front 3 rfl).front 3 rfl).front 3 rfl).front 3 rfl)⟩)
          · skip
            refine HM6.boxStep (by rfl) (N := 10) rfl (cs := #[.int .i64 0, .int .i64 0, .slice none 0 0, .slice none 0 0]) (t := 25) ?hr ?_
            (case hr => first | (go_simp; done) | (go_simp; rfl))
            intro g10 w11 HM7
            clear HM6
            have HM6 := HM7
            clear HM7
            refine hK.out _ _ ⟨(HM6.cell (i := 5) rfl 0).1, (HM6.cell (i := 5) rfl 1).1⟩ (fun hHeld => ?_)
            clear hK K
            refine norm_ (a' := ?_) ?_ ?_
            rotate_left
            · show Act.put _ (some 10) _ = _
              simp only [Act.put, List.setIfInBounds_toArray, List.set_cons_zero, List.set_cons_succ, i64_w, i32_w]
              rfl
            refine one_ (i := 9) (N := some 34) #[true, true, true, true, true, true, true, true, true, true, false, false, false, true, false, false] rfl rfl (by kernel_rfl) (by decide) (fun K hK => ?_)
            obtain ⟨AE, cE, eE, _, hCE⟩ := HM6.rowSlice (i := 1) rfl
            subst eE
            refine goes_ Try.func22 (by kernel_rfl) rfl #[.int .i64 base, .int .i64 (wrap64 (tracks - 1)), .slice An (II TA.1).length cn, .slice AE TA.2.length cE] (by rfl) rfl rfl (by simp only [List.map_toArray, List.map_cons, List.map_nil]; rfl) ?_
            have hrs := HM6.four_ (i := 3) rfl
            refine (shrink_calls (sN base tracks) TA.1 TA.2 HWFA.out (by have := HTAL.out; omega) (by have := HN36.out; omega) base (wrap64 (tracks - 1)) An cn AE cE _ (Kd.R_reads' hrs.2.2).2.2 hCE).mono ?_
            rintro e w10 ⟨m, hm, hcase, hb⟩
            have hc2 : m.1.length ≤ 80 ∧ ∃ v2 v3 : Value, e = .returned (.tuple #[.agg #[.int .i64 base, .int .i64 (wrap64 (tracks - 1)), v2, v3], .bool true]) ∧ kL.R 26 w10 w11.heap.size (fun _ => True) v2 (II m.1) ∧ kB.R 4 w10 w11.heap.size (fun _ => True) v3 m.2 := (by rcases hcase with h | ⟨h, _⟩; (exact h); (obtain ⟨m', h1, h2⟩ := H80.out; rw [hm.unique h1] at h; omega))
            obtain ⟨hm80, v2, v3, rfl, hq2, hq3⟩ := hc2
            obtain ⟨A6, c6, rfl⟩ := Kd.R_slice hq2
            obtain ⟨A7, c7, rfl⟩ := Kd.R_slice hq3
            refine ⟨_, rfl, ?_⟩
            replace HM6 := HM6.rows2 hb hq2 hq3
            clear hb hq2 hq3 hcase hrs hCE
            refine hK.out _ _ ⟨(HM6.cell (i := 6) rfl 0).1, (HM6.cell (i := 6) rfl 1).1⟩ (fun hHeld => ?_)
            clear hK K
            refine norm_ (a' := ?_) ?_ ?_
            rotate_left
            · show Act.put _ (some 34) _ = _
              simp only [Act.put, List.setIfInBounds_toArray, List.set_cons_zero, List.set_cons_succ, i64_w, i32_w]
              rfl
            refine pure_ (i := 10) (N := some 24) (v := ?_) (a' := ?_) #[true, true, true, true, true, true, true, true, true, true, true, false, false, true, false, false] rfl rfl (by kernel_rfl) (fun _ _ _ h => h) (Or.inl ⟨by rfl, ?_⟩) ?_ ?_
            rotate_left
            · intro w'
              go_simp
              with_reducible rfl
            rotate_left
            · simp only [Act.put, List.setIfInBounds_toArray, List.set_cons_zero, List.set_cons_succ, i64_w, i32_w]
              rfl
            refine pure_ (i := 11) (N := some 35) (v := ?_) (a' := ?_) #[true, true, true, true, true, true, true, true, true, true, true, true, false, true, false, false] rfl rfl (by kernel_rfl) (fun _ _ _ h => h) (Or.inl ⟨by rfl, ?_⟩) ?_ ?_
            rotate_left
            · intro w'
              go_simp
              with_reducible rfl
            rotate_left
            · simp only [Act.put, List.setIfInBounds_toArray, List.set_cons_zero, List.set_cons_succ, i64_w, i32_w]
              rfl
            refine pure_ (i := 12) (N := some 36) (v := ?_) (a' := ?_) #[true, true, true, true, true, true, true, true, true, true, true, true, true, true, false, false] rfl rfl (by kernel_rfl) (fun _ _ _ h => h) (Or.inl ⟨by rfl, ?_⟩) ?_ ?_
            rotate_left
            · intro w'
              go_simp
              with_reducible rfl
            rotate_left
            · simp only [Act.put, List.setIfInBounds_toArray, List.set_cons_zero, List.set_cons_succ, i64_w, i32_w]
              rfl
            exact norm_ (by simp only [putAll, Act.put, List.setIfInBounds_toArray, List.set_cons_zero, List.set_cons_succ]) (hCont ⟨⟨A6, c6, A7, c7⟩, m, (.slice AE TA.2.length cE), g10⟩ _ ⟨hm, hm80, (((((((HM6.drop 2).drop 2).drop 2).front 3 rfl).front 3 rfl).front 2 rfl).front 3 rfl)⟩)
        · skip
          refine HM6.boxStep (by rfl) (N := 10) rfl (cs := #[.int .i64 0, .int .i64 0, .slice none 0 0, .slice none 0 0]) (t := 25) ?hr ?_
          (case hr => first | (go_simp; done) | (go_simp; rfl))
          intro g10 w11 HM7
          clear HM6
          have HM6 := HM7
          clear HM7
          refine hK.out _ _ ⟨(HM6.cell (i := 4) rfl 0).1, (HM6.cell (i := 4) rfl 1).1⟩ (fun hHeld => ?_)
          clear hK K
          refine norm_ (a' := ?_) ?_ ?_
          rotate_left
          · show Act.put _ (some 10) _ = _
            simp only [Act.put, List.setIfInBounds_toArray, List.set_cons_zero, List.set_cons_succ, i64_w, i32_w]
            rfl
          refine one_ (i := 8) (N := some 33) #[true, true, true, true, true, true, true, true, true, false, false, false, false, true, false, false] rfl rfl (by kernel_rfl) (by decide) (fun K hK => ?_)
          refine goes_ Try.func23 (by kernel_rfl) rfl #[.slice As (II O).length cs, (.func (.func 29) #[] #[.pointer (some ⟨g6, 0, none⟩)])] (by rfl) rfl rfl (by simp only [List.map_toArray, List.map_cons, List.map_nil]; rfl) ?_
          have hrs := HM6.four_ (i := 2) rfl
          have hc6 := (HM6.cell (i := 1) rfl 3).1
          refine (ends_calls As cs (II O) (.func (.func 29) #[] #[.pointer (some ⟨g6, 0, none⟩)]) (fun z => rdOf false out.2 z) _ (Kd.R_reads' hrs.2.1).2.2 (by rw [II_len]; have := HOL.out; omega) (fun s hs => asked_ends _ g6 Ae ce out.2 s (HOX.out s hs) hc6 (Kd.R_reads' hrs.1.2).2.2)).mono ?_
          rintro e w9 ⟨vE, rfl, hrE, hb⟩
          rw [eset_I, ← HEE.out] at hrE
          refine ⟨_, rfl, ?_⟩
          replace HM6 := HM6.row_ hb hrE
          clear hb hrE hrs hc6
          refine hK.out _ _ ⟨(HM6.cell (i := 5) rfl 0).1, (HM6.cell (i := 5) rfl 1).1⟩ (fun hHeld => ?_)
          clear hK K
          refine norm_ (a' := ?_) ?_ ?_
          rotate_left
          · show Act.put _ (some 33) _ = _
            simp only [Act.put, List.setIfInBounds_toArray, List.set_cons_zero, List.set_cons_succ, i64_w, i32_w]
            rfl
          refine one_ (i := 9) (N := some 34) #[true, true, true, true, true, true, true, true, true, true, false, false, false, true, false, false] rfl rfl (by kernel_rfl) (by decide) (fun K hK => ?_)
          obtain ⟨AE, cE, eE, _, hCE⟩ := HM6.rowSlice (i := 0) rfl
          subst eE
          refine goes_ Try.func22 (by kernel_rfl) rfl #[.int .i64 base, .int .i64 (wrap64 (tracks - 1)), .slice An (II TA.1).length cn, .slice AE TA.2.length cE] (by rfl) rfl rfl (by simp only [List.map_toArray, List.map_cons, List.map_nil]; rfl) ?_
          have hrs := HM6.four_ (i := 3) rfl
          refine (shrink_calls (sN base tracks) TA.1 TA.2 HWFA.out (by have := HTAL.out; omega) (by have := HN36.out; omega) base (wrap64 (tracks - 1)) An cn AE cE _ (Kd.R_reads' hrs.2.2).2.2 hCE).mono ?_
          rintro e w10 ⟨m, hm, hcase, hb⟩
          have hc2 : m.1.length ≤ 80 ∧ ∃ v2 v3 : Value, e = .returned (.tuple #[.agg #[.int .i64 base, .int .i64 (wrap64 (tracks - 1)), v2, v3], .bool true]) ∧ kL.R 26 w10 w9.heap.size (fun _ => True) v2 (II m.1) ∧ kB.R 4 w10 w9.heap.size (fun _ => True) v3 m.2 := (by rcases hcase with h | ⟨h, _⟩; (exact h); (obtain ⟨m', h1, h2⟩ := H80.out; rw [hm.unique h1] at h; omega))
          obtain ⟨hm80, v2, v3, rfl, hq2, hq3⟩ := hc2
          obtain ⟨A6, c6, rfl⟩ := Kd.R_slice hq2
          obtain ⟨A7, c7, rfl⟩ := Kd.R_slice hq3
          refine ⟨_, rfl, ?_⟩
          replace HM6 := HM6.rows2 hb hq2 hq3
          clear hb hq2 hq3 hcase hrs hCE
          refine hK.out _ _ ⟨(HM6.cell (i := 6) rfl 0).1, (HM6.cell (i := 6) rfl 1).1⟩ (fun hHeld => ?_)
          clear hK K
          refine norm_ (a' := ?_) ?_ ?_
          rotate_left
          · show Act.put _ (some 34) _ = _
            simp only [Act.put, List.setIfInBounds_toArray, List.set_cons_zero, List.set_cons_succ, i64_w, i32_w]
            rfl
          refine pure_ (i := 10) (N := some 24) (v := ?_) (a' := ?_) #[true, true, true, true, true, true, true, true, true, true, true, false, false, true, false, false] rfl rfl (by kernel_rfl) (fun _ _ _ h => h) (Or.inl ⟨by rfl, ?_⟩) ?_ ?_
          rotate_left
          · intro w'
            go_simp
            with_reducible rfl
          rotate_left
          · simp only [Act.put, List.setIfInBounds_toArray, List.set_cons_zero, List.set_cons_succ, i64_w, i32_w]
            rfl
          refine pure_ (i := 11) (N := some 35) (v := ?_) (a' := ?_) #[true, true, true, true, true, true, true, true, true, true, true, true, false, true, false, false] rfl rfl (by kernel_rfl) (fun _ _ _ h => h) (Or.inl ⟨by rfl, ?_⟩) ?_ ?_
          rotate_left
          · intro w'
            go_simp
            with_reducible rfl
          rotate_left
          · simp only [Act.put, List.setIfInBounds_toArray, List.set_cons_zero, List.set_cons_succ, i64_w, i32_w]
            rfl
          refine pure_ (i := 12) (N := some 36) (v := ?_) (a' := ?_) #[true, true, true, true, true, true, true, true, true, true, true, true, true, true, false, false] rfl rfl (by kernel_rfl) (fun _ _ _ h => h) (Or.inl ⟨by rfl, ?_⟩) ?_ ?_
          rotate_left
          · intro w'
            go_simp
            with_reducible rfl
          rotate_left
          · simp only [Act.put, List.setIfInBounds_toArray, List.set_cons_zero, List.set_cons_succ, i64_w, i32_w]
            rfl
          exact norm_ (by simp only [putAll, Act.put, List.setIfInBounds_toArray, List.set_cons_zero, List.set_cons_succ]) (hCont ⟨⟨A6, c6, A7, c7⟩, m, (.slice AE TA.2.length cE), g10⟩ _ ⟨hm, hm80, (((((((HM6.drop 1).drop 2).drop 2).front 3 rfl).front 3 rfl).front 2 rfl).front 3 rfl)⟩)
      rintro ⟨⟨A6, c6, A7, c7⟩, m, vE, g10⟩ w' ⟨hm, hm80, HM7⟩
      have HMM := Aside0.mk hm
      have HM80 := Aside0.mk hm80
      clear hm hm80
      have hHeld : w'.cell? ⟨g2, 0, none⟩ = some (.int .i64 base) ∧ w'.cell? ⟨g2, 1, none⟩ = some (.int .i64 tracks) := ⟨(HM7.cell (i := 3) rfl 0).1, (HM7.cell (i := 3) rfl 1).1⟩
      refine norm_ (a' := ?_) ?_ ?_
      rotate_left
      · simp only [putAll, Act.put, List.setIfInBounds_toArray, List.set_cons_zero, List.set_cons_succ]
        rfl
      refine last_ (i := 14) (N := none) #[true, true, true, true, true, true, true, true, true, true, true, true, true, true, true, false] rfl rfl (by kernel_rfl) (by decide) (fun K hK => ?_)
      refine HM7.storeAllStep 0 rfl (by rfl) 25 (.tmp 10) (.tmp 35) rfl (us := #[.int .i64 base, .int .i64 (wrap64 (tracks - 1)), .slice A6 (II m.1).length c6, .slice A7 m.2.length c7]) rfl rfl (one4 rfl rfl rfl rfl) (by exact infoA4) rfl rfl ?_
      intro w12 HM8
      clear HM7
      refine hK.out _ _ ?_
      clear hK K
      refine pure_ (i := 15) (N := some 11) (v := ?_) (a' := ?_) #[true, true, true, true, true, true, true, true, true, true, true, true, true, true, true, true] rfl rfl (by kernel_rfl) (fun _ _ _ h => h) (Or.inl ⟨by rfl, ?_⟩) ?_ ?_
      rotate_left
      · intro w'
        go_simp
        with_reducible rfl
      rotate_left
      · simp only [Act.put, List.setIfInBounds_toArray, List.set_cons_zero, List.set_cons_succ, i64_w, i32_w]
        rfl
      refine done_ (by kernel_rfl) ?_
      go_wp2_with (first
        | ((with_reducible refine gate_dst (N := 41) rfl ?_); (refine HM8.loadAll 0 rfl 25 (.tmp 10) rfl _ rfl Try.underlying25 rfl (by exact infoA4) rfl ?_))
        | ((with_reducible refine gate_store (t := 25) (p := 4) rfl ?_); (refine HM8.storeAll 2 rfl rfl 25 (.tmp 4) _ rfl (us := #[.int .i64 base, .int .i64 (wrap64 (tracks - 1)), .slice A6 (II m.1).length c6, .slice A7 m.2.length c7]) rfl rfl (one4 rfl rfl rfl rfl) (by exact infoA4) rfl rfl ?_; intro w13 HM9; clear HM8)))
      refine bodyPost_ret (results_list (rs := [.cell 4 25, .tmp 5]) rfl (by simp) (.cell g4 25 _ (0, 0) _ rfl (HM9.blkAt (i := 2) rfl).1 Try.underlying25 rfl infoA4 (.tmp .nil))) (by rfl) ?_
      have hq := HM9.two_ (i := 1) rfl
      exact ⟨HM9.below, .inl ⟨n, T, out, tr, m, HOK.out, HCAN.out, rfl, htl, HO2.out, (by rw [← HTA.out]; exact HMM.out), HM80.out, .slice A6 (II m.1).length c6, .slice A7 m.2.length c7, (by rw [show wrap64 (tracks - 1) = tracks - 1 by unfold wrap64; omega]; rfl), hq.1, hq.2⟩⟩
    · have H80 := Aside0.mk h80
      clear h80
      go_enter Try.func12, Try.ntmps12
      go_wp2_with (first
        | ((with_reducible refine gate_dst (N := 2) rfl ?_); refine box_event ?hg (N := 2) ?hd (cs := #[.int .i64 base, .int .i64 tracks, .slice A2 l2.length c2, .slice A3 l3.length c3]) (t := 25) ?hr ?_; (case hd => rfl); (case hg => rfl); (case hr => first | (go_simp; done) | (go_simp; rfl)); intro g2 hg1 w1 hb1 hbel; have HM1 := HM.blk_ hg1 hb1 hbel; clear HM hg1 hb1 hbel)
        | ((with_reducible refine gate_dst (N := 4) rfl ?_); refine box_event ?hg (N := 4) ?hd (cs := #[.int .i64 0, .int .i64 0, .slice none 0 0, .slice none 0 0]) (t := 25) ?hr ?_; (case hd => rfl); (case hg => rfl); (case hr => first | (go_simp; done) | (go_simp; rfl)); intro g4 hg2 w2 hb2 hbel; have HM2 := HM1.blk_ hg2 hb2 hbel; clear HM1 hg2 hb2 hbel)
        | ((with_reducible refine gate_dst (N := 13) rfl ?_); (refine HM2.loadAll 1 rfl 25 (.tmp 2) rfl _ rfl Try.underlying25 rfl (by exact infoA4) rfl ?_))
        | (go_at_call 28; (refine (left_calls base tracks A2 c2 l2 A3 c3 l3 _ _ (Kd.C_below HC2.out HM2.below) H2.out (Kd.C_below HC3.out HM2.below) H3.out).mono ?_; rintro e w3 ⟨hb, hcase⟩; have hcase2 : ∃ va vb vs vn : Value, e = .returned (.tuple #[.agg #[.int .i64 base, .int .i64 tracks, va, vb], vs, vn, .nilIface]) ∧ kL.R 26 w3 w2.heap.size (fun _ => True) va (II out.1) ∧ kB.R 4 w3 w2.heap.size (fun _ => True) vb out.2 ∧ kL.R 26 w3 w2.heap.size (fun _ => True) vs (II O) ∧ kL.R 26 w3 w2.heap.size (fun _ => True) vn (II TA.1) := (by rw [HTA.out, sA_fst, HOO.out]; rcases hcase with ⟨n2, T2, out2, tr2, h1, h2, h3, _, _, h5⟩ | ⟨x, _, _, _, _, _, _, _, _, _, _, h1 | ⟨_, h1, _⟩ | ⟨_, n2, T2, out2, tr2, h1, h2, h3, _, h4⟩⟩; (obtain rfl : tr = tr2 := by omega); (obtain ⟨rfl, rfl, rfl⟩ := can_uniq HOK.out HCAN.out h1 h2; exact h5); (exact absurd ⟨n, T, HOK.out⟩ h1); (exact absurd h1 (by omega)); (obtain rfl : tr = tr2 := by omega); (obtain ⟨rfl, rfl, rfl⟩ := can_uniq HOK.out HCAN.out h1 h2; exact absurd h4 (by have := HO2.out; omega))); obtain ⟨va, vb, vs, vn, rfl, hr1, hr2, hr3, hr4⟩ := hcase2; clear hcase; obtain ⟨Am, cm, rfl⟩ := Kd.R_slice hr1; obtain ⟨Ae, ce, rfl⟩ := Kd.R_slice hr2; obtain ⟨As, cs, rfl⟩ := Kd.R_slice hr3; obtain ⟨An, cn, rfl⟩ := Kd.R_slice hr4; have HM3 := HM2.rows4 hb hr1 hr2 hr3 hr4; rw [II_len (m := out.1)] at HM3 ⊢; clear HM2 hb hr1 hr2 hr3 hr4))
        | ((with_reducible refine gate_dst (N := 6) rfl ?_); refine box_event ?hg (N := 6) ?hd (cs := #[.int .i64 0, .int .i64 0, .slice none 0 0, .slice none 0 0]) (t := 25) ?hr ?_; (case hd => rfl); (case hg => rfl); (case hr => first | (go_simp; done) | (go_simp; rfl)); intro g6 hg6 w6 hb6 hbel; have HM4 := HM3.blk_ hg6 hb6 hbel; clear HM3 hg6 hb6 hbel)
        | ((with_reducible refine gate_store (t := 25) (p := 6) rfl ?_); (refine HM4.storeAll 0 rfl rfl 25 (.tmp 6) _ rfl (us := #[.int .i64 base, .int .i64 tracks, .slice Am out.1.length cm, .slice Ae out.2.length ce]) rfl rfl (one4 rfl rfl rfl rfl) (by exact infoA4) rfl rfl ?_; intro w7 HM5; clear HM4)))
      have hc0 : w7.cell? ⟨g2, 0, none⟩ = some (.int .i64 base) := (HM5.cell (i := 3) rfl 0).1
      have hc1 : w7.cell? ⟨g2, 1, none⟩ = some (.int .i64 tracks) := (HM5.cell (i := 3) rfl 1).1
      have HM6 := HM5.grow (Below.refl _ _).drew
      clear HM5
      refine start_ (n := 16) (S := fun w' => w'.cell? ⟨g2, 0, none⟩ = some (.int .i64 base) ∧ w'.cell? ⟨g2, 1, none⟩ = some (.int .i64 tracks)) (ds := [14]) #[false, false, false, false, false, false, false, false, false, false, false, false, false, false, false, false] (by kernel_rfl) rfl rfl ⟨hc0, hc1⟩ (fun hHeld => ?_)
      generalize w7.drew = w8 at HM6 hHeld ⊢
      refine pure_ (i := 0) (N := some 25) (v := ?_) (a' := ?_) #[true, false, false, false, false, false, false, false, false, false, false, false, false, false, false, false] rfl rfl (by kernel_rfl) (fun _ _ _ h => h) (Or.inl ⟨by rfl, ?_⟩) ?_ ?_
      rotate_left
      · intro w'
        go_simp
        with_reducible rfl
      rotate_left
      · simp only [Act.put, List.setIfInBounds_toArray, List.set_cons_zero, List.set_cons_succ, i64_w, i32_w]
        rfl
      refine pure_ (i := 2) (N := some 27) (v := ?_) (a' := ?_) #[true, false, true, false, false, false, false, false, false, false, false, false, false, false, false, false] rfl rfl (by kernel_rfl) (fun _ _ _ h => h) (Or.inl ⟨by rfl, ?_⟩) ?_ ?_
      rotate_left
      · intro w'
        go_simp
        with_reducible rfl
      rotate_left
      · simp only [Act.put, List.setIfInBounds_toArray, List.set_cons_zero, List.set_cons_succ, i64_w, i32_w]
        rfl
      refine pure_ (i := 5) (N := some 30) (v := ?_) (a' := ?_) #[true, false, true, false, false, true, false, false, false, false, false, false, false, false, false, false] rfl rfl (by kernel_rfl) (fun _ _ _ h => h) (Or.inl ⟨by rfl, ?_⟩) ?_ ?_
      rotate_left
      · intro w'
        go_simp
        with_reducible rfl
      rotate_left
      · simp only [Act.put, List.setIfInBounds_toArray, List.set_cons_zero, List.set_cons_succ, i64_w, i32_w]
        rfl
      refine pure_ (i := 6) (N := some 31) (v := ?_) (a' := ?_) #[true, false, true, false, false, true, true, false, false, false, false, false, false, false, false, false] rfl rfl (by kernel_rfl) (fun _ _ _ h => h) (Or.inl ⟨by rfl, ?_⟩) ?_ ?_
      rotate_left
      · intro w'
        go_simp
        with_reducible rfl
      rotate_left
      · simp only [Act.put, List.setIfInBounds_toArray, List.set_cons_zero, List.set_cons_succ, i64_w, i32_w]
        rfl
      refine pure_ (i := 7) (N := some 32) (v := ?_) (a' := ?_) #[true, false, true, false, false, true, true, true, false, false, false, false, false, false, false, false] rfl rfl (by kernel_rfl) (fun _ _ _ h => h) (Or.inl ⟨by rfl, ?_⟩) ?_ ?_
      rotate_left
      · intro w'
        go_simp
        with_reducible rfl
      rotate_left
      · simp only [Act.put, List.setIfInBounds_toArray, List.set_cons_zero, List.set_cons_succ, i64_w, i32_w]
        rfl
      refine take_ (i := 1) (N := some 26) (v := ?_) (a' := ?_) #[true, true, true, false, false, true, true, true, false, false, false, false, false, false, false, false] rfl rfl (by kernel_rfl) (fun _ _ _ h => h) (Or.inl ⟨by rfl, ?_⟩) hHeld ?_ ?_
      rotate_left
      · rintro w' ⟨s0, s1⟩
        go_simp
        with_reducible rfl
      rotate_left
      · simp only [Act.put, List.setIfInBounds_toArray, List.set_cons_zero, List.set_cons_succ, i64_w, i32_w]
        rfl
      refine take_ (i := 3) (N := some 28) (v := ?_) (a' := ?_) #[true, true, true, true, false, true, true, true, false, false, false, false, false, false, false, false] rfl rfl (by kernel_rfl) (fun _ _ _ h => h) (Or.inl ⟨by rfl, ?_⟩) hHeld ?_ ?_
      rotate_left
      · rintro w' ⟨s0, s1⟩
        go_simp
        with_reducible rfl
      rotate_left
      · simp only [Act.put, List.setIfInBounds_toArray, List.set_cons_zero, List.set_cons_succ, i64_w, i32_w]
        rfl
      refine pure_ (i := 4) (N := some 29) (v := ?_) (a' := ?_) #[true, true, true, true, true, true, true, true, false, false, false, false, false, false, false, false] rfl rfl (by kernel_rfl) (fun _ _ _ h => h) (Or.inl ⟨by rfl, ?_⟩) ?_ ?_
      rotate_left
      · intro w'
        go_simp
        with_reducible rfl
      rotate_left
      · simp only [Act.put, List.setIfInBounds_toArray, List.set_cons_zero, List.set_cons_succ, i64_w, i32_w]
        rfl
      refine join_ (σ := (Tab × List Bool) × Value × Nat) 2 #[true, true, true, true, true, true, true, true, true, true, true, true, true, true, false, false] (fun s => [(33, s.2.1), (34, .tuple #[.agg #[.int .i64 0, .int .i64 0, .slice none 0 0, .slice none 0 0], .bool false]), (24, .tuple #[.agg #[.int .i64 0, .int .i64 0, .slice none 0 0, .slice none 0 0], .bool false]), (35, .agg #[.int .i64 0, .int .i64 0, .slice none 0 0, .slice none 0 0]), (36, .bool false), (10, .pointer (some ⟨s.2.2, 0, none⟩))]) (fun s w' => Go.Proofs.Fil.Can (sN base tracks) (lof (sN base tracks) TA 0) s.1 ∧ 80 < s.1.1.length ∧ Mem W.heap.size (fun _ => False) W w' [blk s.2.2 #[.int .i64 0, .int .i64 0, .slice none 0 0, .slice none 0 0] 25, blk g4 #[.int .i64 0, .int .i64 0, .slice none 0 0, .slice none 0 0] 25, blk g2 #[.int .i64 base, .int .i64 tracks, .slice A2 l2.length c2, .slice A3 l3.length c3] 25]) ?_ ?_
      rotate_left
      · intro hCont
        refine two_ (i := 8) (j := 13) (Ni := some 33) (Nj := some 10) #[true, true, true, true, true, true, true, true, true, false, false, false, false, false, false, false] #[true, true, true, true, true, true, true, true, false, false, false, false, false, true, false, false] rfl rfl rfl rfl (by kernel_rfl) (by decide) (by decide) (fun K hK => ?_) (fun K hK => ?_)
        · skip
          refine goes_ Try.func23 (by kernel_rfl) rfl #[.slice As (II O).length cs, (.func (.func 29) #[] #[.pointer (some ⟨g6, 0, none⟩)])] (by rfl) rfl rfl (by simp only [List.map_toArray, List.map_cons, List.map_nil]; rfl) ?_
          have hrs := HM6.four_ (i := 1) rfl
          have hc6 := (HM6.cell (i := 0) rfl 3).1
          refine (ends_calls As cs (II O) (.func (.func 29) #[] #[.pointer (some ⟨g6, 0, none⟩)]) (fun z => rdOf false out.2 z) _ (Kd.R_reads' hrs.2.1).2.2 (by rw [II_len]; have := HOL.out; omega) (fun s hs => asked_ends _ g6 Ae ce out.2 s (HOX.out s hs) hc6 (Kd.R_reads' hrs.1.2).2.2)).mono ?_
          rintro e w9 ⟨vE, rfl, hrE, hb⟩
          rw [eset_I, ← HEE.out] at hrE
          refine ⟨_, rfl, ?_⟩
          replace HM6 := HM6.row_ hb hrE
          clear hb hrE hrs hc6
          refine hK.out _ _ ⟨(HM6.cell (i := 4) rfl 0).1, (HM6.cell (i := 4) rfl 1).1⟩ (fun hHeld => ?_)
          clear hK K
          refine norm_ (a' := ?_) ?_ ?_
          rotate_left
          · show Act.put _ (some 33) _ = _
            simp only [Act.put, List.setIfInBounds_toArray, List.set_cons_zero, List.set_cons_succ, i64_w, i32_w]
            rfl
          refine two_ (i := 9) (j := 13) (Ni := some 34) (Nj := some 10) #[true, true, true, true, true, true, true, true, true, true, false, false, false, false, false, false] #[true, true, true, true, true, true, true, true, true, false, false, false, false, true, false, false] rfl rfl rfl rfl (by kernel_rfl) (by decide) (by decide) (fun K hK => ?_) (fun K hK => ?_)
          · skip
            obtain ⟨AE, cE, eE, _, hCE⟩ := HM6.rowSlice (i := 0) rfl
            subst eE
            refine goes_ Try.func22 (by kernel_rfl) rfl #[.int .i64 base, .int .i64 (wrap64 (tracks - 1)), .slice An (II TA.1).length cn, .slice AE TA.2.length cE] (by rfl) rfl rfl (by simp only [List.map_toArray, List.map_cons, List.map_nil]; rfl) ?_
            have hrs := HM6.four_ (i := 2) rfl
            refine (shrink_calls (sN base tracks) TA.1 TA.2 HWFA.out (by have := HTAL.out; omega) (by have := HN36.out; omega) base (wrap64 (tracks - 1)) An cn AE cE _ (Kd.R_reads' hrs.2.2).2.2 hCE).mono ?_
            rintro e w10 ⟨m, hm, hcase, hb⟩
            have hc2 : 80 < m.1.length ∧ e = .returned (.tuple #[.agg #[.int .i64 0, .int .i64 0, .slice none 0 0, .slice none 0 0], .bool false]) := (by rcases hcase with ⟨h, _⟩ | h; (exact absurd ⟨m, hm, h⟩ H80.out); (exact h))
            obtain ⟨hm80, rfl⟩ := hc2
            refine ⟨_, rfl, ?_⟩
            replace HM6 := HM6.grow hb
            clear hb hcase hrs hCE
            refine hK.out _ _ ⟨(HM6.cell (i := 4) rfl 0).1, (HM6.cell (i := 4) rfl 1).1⟩ (fun hHeld => ?_)
            clear hK K
            refine norm_ (a' := ?_) ?_ ?_
            rotate_left
            · show Act.put _ (some 34) _ = _
              simp only [Act.put, List.setIfInBounds_toArray, List.set_cons_zero, List.set_cons_succ, i64_w, i32_w]
              rfl
            refine pure_ (i := 10) (N := some 24) (v := ?_) (a' := ?_) #[true, true, true, true, true, true, true, true, true, true, true, false, false, false, false, false] rfl rfl (by kernel_rfl) (fun _ _ _ h => h) (Or.inl ⟨by rfl, ?_⟩) ?_ ?_
            rotate_left
            · intro w'
              go_simp
              with_reducible rfl
            rotate_left
            · simp only [Act.put, List.setIfInBounds_toArray, List.set_cons_zero, List.set_cons_succ, i64_w, i32_w]
              rfl
            refine pure_ (i := 11) (N := some 35) (v := ?_) (a' := ?_) #[true, true, true, true, true, true, true, true, true, true, true, true, false, false, false, false] rfl rfl (by kernel_rfl) (fun _ _ _ h => h) (Or.inl ⟨by rfl, ?_⟩) ?_ ?_
            rotate_left
            · intro w'
              go_simp
              with_reducible rfl
            rotate_left
            · simp only [Act.put, List.setIfInBounds_toArray, List.set_cons_zero, List.set_cons_succ, i64_w, i32_w]
              rfl
            refine pure_ (i := 12) (N := some 36) (v := ?_) (a' := ?_) #[true, true, true, true, true, true, true, true, true, true, true, true, true, false, false, false] rfl rfl (by kernel_rfl) (fun _ _ _ h => h) (Or.inl ⟨by rfl, ?_⟩) ?_ ?_
            rotate_left
            · intro w'
              go_simp
              with_reducible rfl
            rotate_left
            · simp only [Act.put, List.setIfInBounds_toArray, List.set_cons_zero, List.set_cons_succ, i64_w, i32_w]
              rfl
            refine one_ (i := 13) (N := some 10) #[true, true, true, true, true, true, true, true, true, true, true, true, true, true, false, false] rfl rfl (by kernel_rfl) (by decide) (fun K hK => ?_)
            refine HM6.boxStep (by rfl) (N := 10) rfl (cs := #[.int .i64 0, .int .i64 0, .slice none 0 0, .slice none 0 0]) (t := 25) ?hr ?_
            (case hr => first | (go_simp; done) | (go_simp; rfl))
            intro g10 w11 HM7
            clear HM6
            have HM6 := HM7
            clear HM7
            refine hK.out _ _ ⟨(HM6.cell (i := 5) rfl 0).1, (HM6.cell (i := 5) rfl 1).1⟩ (fun hHeld => ?_)
            clear hK K
            refine norm_ (a' := ?_) ?_ ?_
            rotate_left
            · show Act.put _ (some 10) _ = _
              simp only [Act.put, List.setIfInBounds_toArray, List.set_cons_zero, List.set_cons_succ, i64_w, i32_w]
              rfl
            exact norm_ (by simp only [putAll, Act.put, List.setIfInBounds_toArray, List.set_cons_zero, List.set_cons_succ]) (hCont ⟨m, (.slice AE TA.2.length cE), g10⟩ _ ⟨hm, hm80, ((((((HM6.drop 1).drop 1).drop 1).front 2 rfl).front 2 rfl).front 2 rfl)⟩)
          · skip
            refine HM6.boxStep (by rfl) (N := 10) rfl (cs := #[.int .i64 0, .int .i64 0, .slice none 0 0, .slice none 0 0]) (t := 25) ?hr ?_
            (case hr => first | (go_simp; done) | (go_simp; rfl))
            intro g10 w11 HM7
            clear HM6
            have HM6 := HM7
            clear HM7
            refine hK.out _ _ ⟨(HM6.cell (i := 5) rfl 0).1, (HM6.cell (i := 5) rfl 1).1⟩ (fun hHeld => ?_)
            clear hK K
            refine norm_ (a' := ?_) ?_ ?_
            rotate_left
            · show Act.put _ (some 10) _ = _
              simp only [Act.put, List.setIfInBounds_toArray, List.set_cons_zero, List.set_cons_succ, i64_w, i32_w]
              rfl
            refine one_ (i := 9) (N := some 34) #[true, true, true, true, true, true, true, true, true, true, false, false, false, true, false, false] rfl rfl (by kernel_rfl) (by decide) (fun K hK => ?_)
            obtain ⟨AE, cE, eE, _, hCE⟩ := HM6.rowSlice (i := 1) rfl
            subst eE
            refine goes_ Try.func22 (by kernel_rfl) rfl #[.int .i64 base, .int .i64 (wrap64 (tracks - 1)), .slice An (II TA.1).length cn, .slice AE TA.2.length cE] (by rfl) rfl rfl (by simp only [List.map_toArray, List.map_cons, List.map_nil]; rfl) ?_
            have hrs := HM6.four_ (i := 3) rfl
            refine (shrink_calls (sN base tracks) TA.1 TA.2 HWFA.out (by have := HTAL.out; omega) (by have := HN36.out; omega) base (wrap64 (tracks - 1)) An cn AE cE _ (Kd.R_reads' hrs.2.2).2.2 hCE).mono ?_
            rintro e w10 ⟨m, hm, hcase, hb⟩
            have hc2 : 80 < m.1.length ∧ e = .returned (.tuple #[.agg #[.int .i64 0, .int .i64 0, .slice none 0 0, .slice none 0 0], .bool false]) := (by rcases hcase with ⟨h, _⟩ | h; (exact absurd ⟨m, hm, h⟩ H80.out); (exact h))
            obtain ⟨hm80, rfl⟩ := hc2
            refine ⟨_, rfl, ?_⟩
            replace HM6 := HM6.grow hb
            clear hb hcase hrs hCE
            refine hK.out _ _ ⟨(HM6.cell (i := 5) rfl 0).1, (HM6.cell (i := 5) rfl 1).1⟩ (fun hHeld => ?_)
            clear hK K
            refine norm_ (a' := ?_) ?_ ?_
            rotate_left
            · show Act.put _ (some 34) _ = _
              simp only [Act.put, List.setIfInBounds_toArray, List.set_cons_zero, List.set_cons_succ, i64_w, i32_w]
              rfl
            refine pure_ (i := 10) (N := some 24) (v := ?_) (a' := ?_) #[true, true, true, true, true, true, true, true, true, true, true, false, false, true, false, false] rfl rfl (by kernel_rfl) (fun _ _ _ h => h) (Or.inl ⟨by rfl, ?_⟩) ?_ ?_
            rotate_left
            · intro w'
              go_simp
              with_reducible rfl
            rotate_left
            · simp only [Act.put, List.setIfInBounds_toArray, List.set_cons_zero, List.set_cons_succ, i64_w, i32_w]
              rfl
            refine pure_ (i := 11) (N := some 35) (v := ?_) (a' := ?_) #[true, true, true, true, true, true, true, true, true, true, true, true, false, true, false, false] rfl rfl (by kernel_rfl) (fun _ _ _ h => h) (Or.inl ⟨by rfl, ?_⟩) ?_ ?_
            rotate_left
            · intro w'
              go_simp
              with_reducible rfl
            rotate_left
            · simp only [Act.put, List.setIfInBounds_toArray, List.set_cons_zero, List.set_cons_succ, i64_w, i32_w]
              rfl
            refine pure_ (i := 12) (N := some 36) (v := ?_) (a' := ?_) #[true, true, true, true, true, true, true, true, true, true, true, true, true, true, false, false] rfl rfl (by kernel_rfl) (fun _ _ _ h => h) (Or.inl ⟨by rfl, ?_⟩) ?_ ?_
            rotate_left
            · intro w'
              go_simp
              with_reducible rfl
            rotate_left
            · simp only [Act.put, List.setIfInBounds_toArray, List.set_cons_zero, List.set_cons_succ, i64_w, i32_w]
              rfl
            exact norm_ (by simp only [putAll, Act.put, List.setIfInBounds_toArray, List.set_cons_zero, List.set_cons_succ]) (hCont ⟨m, (.slice AE TA.2.length cE), g10⟩ _ ⟨hm, hm80, ((((((HM6.drop 1).drop 1).drop 1).front 2 rfl).front 2 rfl).front 2 rfl)⟩)
        · skip
          refine HM6.boxStep (by rfl) (N := 10) rfl (cs := #[.int .i64 0, .int .i64 0, .slice none 0 0, .slice none 0 0]) (t := 25) ?hr ?_
          (case hr => first | (go_simp; done) | (go_simp; rfl))
          intro g10 w11 HM7
          clear HM6
          have HM6 := HM7
          clear HM7
          refine hK.out _ _ ⟨(HM6.cell (i := 4) rfl 0).1, (HM6.cell (i := 4) rfl 1).1⟩ (fun hHeld => ?_)
          clear hK K
          refine norm_ (a' := ?_) ?_ ?_
          rotate_left
          · show Act.put _ (some 10) _ = _
            simp only [Act.put, List.setIfInBounds_toArray, List.set_cons_zero, List.set_cons_succ, i64_w, i32_w]
            rfl
          refine one_ (i := 8) (N := some 33) #[true, true, true, true, true, true, true, true, true, false, false, false, false, true, false, false] rfl rfl (by kernel_rfl) (by decide) (fun K hK => ?_)
          refine goes_ Try.func23 (by kernel_rfl) rfl #[.slice As (II O).length cs, (.func (.func 29) #[] #[.pointer (some ⟨g6, 0, none⟩)])] (by rfl) rfl rfl (by simp only [List.map_toArray, List.map_cons, List.map_nil]; rfl) ?_
          have hrs := HM6.four_ (i := 2) rfl
          have hc6 := (HM6.cell (i := 1) rfl 3).1
          refine (ends_calls As cs (II O) (.func (.func 29) #[] #[.pointer (some ⟨g6, 0, none⟩)]) (fun z => rdOf false out.2 z) _ (Kd.R_reads' hrs.2.1).2.2 (by rw [II_len]; have := HOL.out; omega) (fun s hs => asked_ends _ g6 Ae ce out.2 s (HOX.out s hs) hc6 (Kd.R_reads' hrs.1.2).2.2)).mono ?_
          rintro e w9 ⟨vE, rfl, hrE, hb⟩
          rw [eset_I, ← HEE.out] at hrE
          refine ⟨_, rfl, ?_⟩
          replace HM6 := HM6.row_ hb hrE
          clear hb hrE hrs hc6
          refine hK.out _ _ ⟨(HM6.cell (i := 5) rfl 0).1, (HM6.cell (i := 5) rfl 1).1⟩ (fun hHeld => ?_)
          clear hK K
          refine norm_ (a' := ?_) ?_ ?_
          rotate_left
          · show Act.put _ (some 33) _ = _
            simp only [Act.put, List.setIfInBounds_toArray, List.set_cons_zero, List.set_cons_succ, i64_w, i32_w]
            rfl
          refine one_ (i := 9) (N := some 34) #[true, true, true, true, true, true, true, true, true, true, false, false, false, true, false, false] rfl rfl (by kernel_rfl) (by decide) (fun K hK => ?_)
          obtain ⟨AE, cE, eE, _, hCE⟩ := HM6.rowSlice (i := 0) rfl
          subst eE
          refine goes_ Try.func22 (by kernel_rfl) rfl #[.int .i64 base, .int .i64 (wrap64 (tracks - 1)), .slice An (II TA.1).length cn, .slice AE TA.2.length cE] (by rfl) rfl rfl (by simp only [List.map_toArray, List.map_cons, List.map_nil]; rfl) ?_
          have hrs := HM6.four_ (i := 3) rfl
          refine (shrink_calls (sN base tracks) TA.1 TA.2 HWFA.out (by have := HTAL.out; omega) (by have := HN36.out; omega) base (wrap64 (tracks - 1)) An cn AE cE _ (Kd.R_reads' hrs.2.2).2.2 hCE).mono ?_
          rintro e w10 ⟨m, hm, hcase, hb⟩
          have hc2 : 80 < m.1.length ∧ e = .returned (.tuple #[.agg #[.int .i64 0, .int .i64 0, .slice none 0 0, .slice none 0 0], .bool false]) := (by rcases hcase with ⟨h, _⟩ | h; (exact absurd ⟨m, hm, h⟩ H80.out); (exact h))
          obtain ⟨hm80, rfl⟩ := hc2
          refine ⟨_, rfl, ?_⟩
          replace HM6 := HM6.grow hb
          clear hb hcase hrs hCE
          refine hK.out _ _ ⟨(HM6.cell (i := 5) rfl 0).1, (HM6.cell (i := 5) rfl 1).1⟩ (fun hHeld => ?_)
          clear hK K
          refine norm_ (a' := ?_) ?_ ?_
          rotate_left
          · show Act.put _ (some 34) _ = _
            simp only [Act.put, List.setIfInBounds_toArray, List.set_cons_zero, List.set_cons_succ, i64_w, i32_w]
            rfl
          refine pure_ (i := 10) (N := some 24) (v := ?_) (a' := ?_) #[true, true, true, true, true, true, true, true, true, true, true, false, false, true, false, false] rfl rfl (by kernel_rfl) (fun _ _ _ h => h) (Or.inl ⟨by rfl, ?_⟩) ?_ ?_
          rotate_left
          · intro w'
            go_simp
            with_reducible rfl
          rotate_left
          · simp only [Act.put, List.setIfInBounds_toArray, List.set_cons_zero, List.set_cons_succ, i64_w, i32_w]
            rfl
          refine pure_ (i := 11) (N := some 35) (v := ?_) (a' := ?_) #[true, true, true, true, true, true, true, true, true, true, true, true, false, true, false, false] rfl rfl (by kernel_rfl) (fun _ _ _ h => h) (Or.inl ⟨by rfl, ?_⟩) ?_ ?_
          rotate_left
          · intro w'
            go_simp
            with_reducible rfl
          rotate_left
          · simp only [Act.put, List.setIfInBounds_toArray, List.set_cons_zero, List.set_cons_succ, i64_w, i32_w]
            rfl
          refine pure_ (i := 12) (N := some 36) (v := ?_) (a' := ?_) #[true, true, true, true, true, true, true, true, true, true, true, true, true, true, false, false] rfl rfl (by kernel_rfl) (fun _ _ _ h => h) (Or.inl ⟨by rfl, ?_⟩) ?_ ?_
          rotate_left
          · intro w'
            go_simp
            with_reducible rfl
          rotate_left
          · simp only [Act.put, List.setIfInBounds_toArray, List.set_cons_zero, List.set_cons_succ, i64_w, i32_w]
            rfl
          exact norm_ (by simp only [putAll, Act.put, List.setIfInBounds_toArray, List.set_cons_zero, List.set_cons_succ]) (hCont ⟨m, (.slice AE TA.2.length cE), g10⟩ _ ⟨hm, hm80, ((((((HM6.drop 0).drop 1).drop 1).front 2 rfl).front 2 rfl).front 2 rfl)⟩)
      rintro ⟨m, vE, g10⟩ w' ⟨hm, hm80, HM7⟩
      have HMM := Aside0.mk hm
      have HM80 := Aside0.mk hm80
      clear hm hm80
      have hHeld : w'.cell? ⟨g2, 0, none⟩ = some (.int .i64 base) ∧ w'.cell? ⟨g2, 1, none⟩ = some (.int .i64 tracks) := ⟨(HM7.cell (i := 2) rfl 0).1, (HM7.cell (i := 2) rfl 1).1⟩
      refine norm_ (a' := ?_) ?_ ?_
      rotate_left
      · simp only [putAll, Act.put, List.setIfInBounds_toArray, List.set_cons_zero, List.set_cons_succ]
        rfl
      refine last_ (i := 14) (N := none) #[true, true, true, true, true, true, true, true, true, true, true, true, true, true, true, false] rfl rfl (by kernel_rfl) (by decide) (fun K hK => ?_)
      refine HM7.storeAllStep 0 rfl (by rfl) 25 (.tmp 10) (.tmp 35) rfl (us := #[.int .i64 0, .int .i64 0, .slice none 0 0, .slice none 0 0]) rfl rfl (one4 rfl rfl rfl rfl) (by exact infoA4) rfl rfl ?_
      intro w12 HM8
      clear HM7
      refine hK.out _ _ ?_
      clear hK K
      refine pure_ (i := 15) (N := some 11) (v := ?_) (a' := ?_) #[true, true, true, true, true, true, true, true, true, true, true, true, true, true, true, true] rfl rfl (by kernel_rfl) (fun _ _ _ h => h) (Or.inl ⟨by rfl, ?_⟩) ?_ ?_
      rotate_left
      · intro w'
        go_simp
        with_reducible rfl
      rotate_left
      · simp only [Act.put, List.setIfInBounds_toArray, List.set_cons_zero, List.set_cons_succ, i64_w, i32_w]
        rfl
      refine done_ (by kernel_rfl) ?_
      go_wp2_with (first
        | ((with_reducible refine gate_store (t := 25) (p := 4) rfl ?_); (refine HM8.storeAll 1 rfl rfl 25 (.tmp 4) _ rfl (us := #[.int .i64 0, .int .i64 0, .slice none 0 0, .slice none 0 0]) rfl rfl (one4 rfl rfl rfl rfl) (by exact infoA4) rfl rfl ?_; intro w13 HM9; clear HM8)))
      refine bodyPost_ret (results_list (rs := [.cell 4 25, .tmp 5]) rfl (by simp) (.cell g4 25 _ (0, 0) _ rfl (HM9.blkAt (i := 1) rfl).1 Try.underlying25 rfl infoA4 (.tmp .nil))) (by rfl) ?_
      exact ⟨HM9.below, .inr ⟨3, .inr (.inr (.inl rfl)), rfl, .inr (.inr ⟨rfl, n, T, out, tr, HOK.out, HCAN.out, rfl, htl, .inr ⟨HO2.out, m, (by rw [← HTA.out]; exact HMM.out), HM80.out⟩⟩)⟩⟩
  · have HNO := Aside0.mk hno
    clear hno
    go_enter Try.func12, Try.ntmps12
    go_wp2_with (first
      | ((with_reducible refine gate_dst (N := 2) rfl ?_); refine box_event ?hg (N := 2) ?hd (cs := #[.int .i64 base, .int .i64 tracks, .slice A2 l2.length c2, .slice A3 l3.length c3]) (t := 25) ?hr ?_; (case hd => rfl); (case hg => rfl); (case hr => first | (go_simp; done) | (go_simp; rfl)); intro g2 hg1 w1 hb1 hbel; have HM1 := HM.blk_ hg1 hb1 hbel; clear HM hg1 hb1 hbel)
      | ((with_reducible refine gate_dst (N := 4) rfl ?_); refine box_event ?hg (N := 4) ?hd (cs := #[.int .i64 0, .int .i64 0, .slice none 0 0, .slice none 0 0]) (t := 25) ?hr ?_; (case hd => rfl); (case hg => rfl); (case hr => first | (go_simp; done) | (go_simp; rfl)); intro g4 hg2 w2 hb2 hbel; have HM2 := HM1.blk_ hg2 hb2 hbel; clear HM1 hg2 hb2 hbel)
      | ((with_reducible refine gate_dst (N := 13) rfl ?_); (refine HM2.loadAll 1 rfl 25 (.tmp 2) rfl _ rfl Try.underlying25 rfl (by exact infoA4) rfl ?_))
      | (go_at_call 28; (refine (left_calls base tracks A2 c2 l2 A3 c3 l3 _ _ (Kd.C_below HC2.out HM2.below) H2.out (Kd.C_below HC3.out HM2.below) H3.out).mono ?_; rintro e w3 ⟨hb, hcase⟩; have hcase2 : ∃ (x b' t' : Int) (A' : Option Addr) (n' c' : Nat) (A'' : Option Addr) (n'' c'' : Nat), (x = 1 ∨ x = 2 ∨ x = 3 ∨ x = 4) ∧ e = .returned (.tuple #[.agg #[.int .i64 b', .int .i64 t', .slice A' n' c', .slice A'' n'' c''], .slice none 0 0, .slice none 0 0, errW (some x)]) ∧ ((¬ ∃ n T, Ok base tracks l2 l3 n T) ∨ (x = 1 ∧ (track < 0 ∨ tracks ≤ track) ∧ ∃ n T, Ok base tracks l2 l3 n T) ∨ (x = 3 ∧ ∃ n T out tr, Ok base tracks l2 l3 n T ∧ Go.Proofs.Fil.Can n (lof n (T, l3) 0) out ∧ track = ((tr : Nat) : Int) ∧ track < tracks ∧ 2000 < (sO base tracks tr out.1).length)) := (by rcases hcase with ⟨n, T, out, tr, h1, h2, h3, h4, h5, _⟩ | h; (exact absurd ⟨n, T, out, tr, h1, h2, h3, h4, h5⟩ HNO.out); (exact h)); obtain ⟨x, b', t', A', n', c', A'', n'', c'', hx, rfl, hwhy⟩ := hcase2; have HX := Aside0.mk hx; have HWHY := Aside0.mk hwhy; clear hx hwhy hcase; have HM3 := HM2.grow hb; clear HM2 hb; simp only [errW_some]))
      | ((with_reducible refine gate_dst (N := 6) rfl ?_); refine box_event ?hg (N := 6) ?hd (cs := #[.int .i64 0, .int .i64 0, .slice none 0 0, .slice none 0 0]) (t := 25) ?hr ?_; (case hd => rfl); (case hg => rfl); (case hr => first | (go_simp; done) | (go_simp; rfl)); intro g6 hg6 w6 hb6 hbel; have HM4 := HM3.blk_ hg6 hb6 hbel; clear HM3 hg6 hb6 hbel)
      | ((with_reducible refine gate_store (t := 25) (p := 6) rfl ?_); (refine HM4.storeAll 0 rfl rfl 25 (.tmp 6) _ rfl (us := #[.int .i64 b', .int .i64 t', .slice A' n' c', .slice A'' n'' c'']) rfl rfl (one4 rfl rfl rfl rfl) (by exact infoA4) rfl rfl ?_; intro w7 HM5; clear HM4))
      | ((with_reducible refine gate_store (t := 25) (p := 4) rfl ?_); (refine HM5.storeAll 1 rfl rfl 25 (.tmp 4) _ rfl (us := #[.int .i64 0, .int .i64 0, .slice none 0 0, .slice none 0 0]) rfl rfl (one4 rfl rfl rfl rfl) (by exact infoA4) rfl rfl ?_; intro w8 HM6; clear HM5)))
    refine bodyPost_ret (results_list (rs := [.cell 4 25, .tmp 5]) rfl (by simp) (.cell g4 25 _ (0, 0) _ rfl (HM6.blkAt (i := 1) rfl).1 Try.underlying25 rfl infoA4 (.tmp .nil))) (by rfl) ?_
    refine ⟨HM6.below, .inr ⟨x, HX.out, rfl, ?_⟩⟩
    rcases HWHY.out with h1 | h1 | ⟨h1, n, T, out, tr, h2, h3, h4, h5, h6⟩
    · exact .inl h1
    · exact .inr (.inl h1)
    · exact .inr (.inr ⟨h1, n, T, out, tr, h2, h3, h4, h5, .inl h6⟩)
end Go.Proofs.Ytlffephcbfdknaa.Wk
