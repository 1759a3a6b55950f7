/- Walk by hand: pair.Both. -/
import Derived.Test.YtlffephcbfdknaaKBth
set_option linter.unusedVariables false
set_option linter.unusedSimpArgs false
namespace Go.Proofs.Ytlffephcbfdknaa.Wk
open Go.RowKit Go.Proofs.YtlffephcbfdknaaW.PrintWords Go.Proofs.YtlffephcbfdknaaW.PrintMore Go.Proofs.YtlffephcbfdknaaW.PrintLast Go.Proofs.Sep Go.Proofs.Fil Go.Proofs.Ytlffephcbfdknaa.Chk Go.Proofs.Ytlffephcbfdknaa.PSomeTakes
theorem gate_ins {P : Program} {ops : Array Oper} {rest : List Oper} {o : Oper} {a : Act} {Q : Exit → Act → World → Prop} {W : World} {t : TypeId} {m x v : Operand} (_ho : o.op = .insert t m x v) (h : wpList P ops Q (o :: rest) a W) : wpList P ops Q (o :: rest) a W := h
abbrev kP : Kd (Int × Int) := Kd.pair kI kI
/-- pairs as the program holds them -/
def pI (p : Nat × Nat) : Int × Int := ((p.1 : Int), (p.2 : Int))
def PP (O : List (Nat × Nat)) : List (Int × Int) := O.map pI
theorem PP_len {O : List (Nat × Nat)} : (PP O).length = O.length := by simp [PP]
theorem PP_snoc (O : List (Nat × Nat)) (p : Nat × Nat) : PP (O ++ [p]) = PP O ++ [pI p] := by simp [PP]
/-- a pair's key -/
def kp (p : Nat × Nat) : Lit := kl2 p.1 p.2
theorem kp_inj {p q : Nat × Nat} (hp : p.1 < 80 ∧ p.2 < 80) (hq : q.1 < 80 ∧ q.2 < 80) (h : kp p = kp q) : p = q := by
  have := kl2_inj (by omega) (by omega) (by omega) (by omega) h
  exact Prod.ext this.1 this.2
theorem kp_mem {Q : List (Nat × Nat)} {p : Nat × Nat} (hQ : ∀ q ∈ Q, q.1 < 80 ∧ q.2 < 80) (hp : p.1 < 80 ∧ p.2 < 80) (h : p ∉ Q) : kp p ∉ Q.map kp := by
  intro hm
  obtain ⟨q, hq, he⟩ := List.mem_map.1 hm
  have := kp_inj (hQ q hq) hp he
  exact h (this ▸ hq)
theorem kp_get {Q : List (Nat × Nat)} {p : Nat × Nat} (h : p ∈ Q) : (Q.map kp)[ix Q p]? = some (kp p) := by
  have h1 : Q.idxOf p < Q.length := List.idxOf_lt_length_iff.2 h
  have h2 : Q[Q.idxOf p]? = some p := by rw [List.getElem?_eq_getElem h1, List.getElem_idxOf h1]
  rw [← ix_eq, List.getElem?_map, h2]
  rfl
theorem infoP : (Try.prog.info? 62).map (fun i => (i.zero, i.size, i.bytes)) = some (some (.agg #[.int .i64 0, .int .i64 0]), 2, 16) := by kernel_rfl
theorem infoP2 : (Try.prog.info? 62).map (·.size) = some 2 := by kernel_rfl
theorem one2 {u v : Value} (h1 : u.oneCell' = true) (h2 : v.oneCell' = true) : ∀ q ∈ (#[u, v] : Array Value).toList, q.oneCell' = true := by
  intro q hq
  simp only [List.mem_cons, List.not_mem_nil, or_false] at hq
  rcases hq with rfl | rfl <;> assumption
theorem pM (W : World) (b : Nat) (ok : Nat → Prop) (p : Nat × Nat) : kP.M W b ok (pI p) [.int .i64 (p.1 : Int), .int .i64 (p.2 : Int)] := ⟨[_], [_], rfl, rfl, rfl⟩
theorem pair_at {W : World} {A : Option Addr} {O : List (Nat × Nat)} (h : kP.C W A (PP O).length (PP O)) {i : Nat} {p : Nat × Nat} (hp : O[i]? = some p) : ∃ ad, A = some ad ∧ W.cell? (ad.add (i * 2)) = some (.int .i64 (p.1 : Int)) ∧ W.cell? ⟨(ad.add (i * 2)).block, (ad.add (i * 2)).off + 1, none⟩ = some (.int .i64 (p.2 : Int)) := by
  obtain ⟨hi, hx⟩ := List.getElem?_eq_some_iff.1 hp
  obtain ⟨ad, c, e, _, hK, hc0⟩ := Kd.C_get h ((0, 0) : Int × Int) (i : Int) (by omega) (by rw [PP_len]; omega)
  have hg : (PP O).getD i (0, 0) = pI p := by
    rw [List.getD_eq_getElem?_getD]; unfold PP; rw [List.getElem?_map, hp]; rfl
  rw [Int.toNat_natCast, hg] at hK
  obtain ⟨c0, c1, rfl, e0, e1⟩ := hK
  have e0' : c0 = [.int .i64 (p.1 : Int)] := e0
  have e1' : c1 = [.int .i64 (p.2 : Int)] := e1
  subst e0' e1'
  refine ⟨ad, e, ?_, ?_⟩
  · have hq := hc0 0 _ rfl
    have e2 : (i : Int).toNat * kP.sz + 0 = i * 2 := by rw [Int.toNat_natCast]; rfl
    rwa [e2] at hq
  · have hq := hc0 1 _ rfl
    have e2 : (i : Int).toNat * kP.sz + 1 = i * 2 + 1 := by rw [Int.toNat_natCast]; rfl
    rw [e2] at hq
    rw [← add_add] at hq
    exact hq
/-- What Both answers. -/
def BothPost (how base tracks : Int) (l2 : List (List Int)) (l3 : List Bool) (base' tracks' : Int) (m2 : List (List Int)) (m3 : List Bool) (B : Nat) (e : Ending) (w' : World) : Prop :=
  (∃ n T T' m, AlikeOk base tracks l2 l3 base' tracks' m2 m3 n T T' ∧ Go.Proofs.Fil.Can n (bothL how (lof n (T, l3) 0) (lof n (T', m3) 0)) m ∧ m.1.length ≤ 80 ∧
    ∃ v2 v3, e = .returned (.tuple #[.agg #[.int .i64 base, .int .i64 tracks, v2, v3], .nilIface]) ∧ kL.R 26 w' B (fun _ => True) v2 (II m.1) ∧ kB.R 4 w' B (fun _ => True) v3 m.2) ∨
  (∃ x, (x = 1 ∨ x = 2 ∨ x = 3 ∨ x = 4) ∧ e = .returned (.tuple #[.agg #[.int .i64 0, .int .i64 0, .slice none 0 0, .slice none 0 0], errW (some x)]) ∧
    ((¬ ∃ n T T', AlikeOk base tracks l2 l3 base' tracks' m2 m3 n T T') ∨
      (x = 3 ∧ ∃ n T T' m, AlikeOk base tracks l2 l3 base' tracks' m2 m3 n T T' ∧ Go.Proofs.Fil.Can n (bothL how (lof n (T, l3) 0) (lof n (T', m3) 0)) m ∧ 80 < m.1.length)))
set_option maxRecDepth 100000 in
set_option maxHeartbeats 4000000 in
theorem both_calls (base tracks : Int) (A2 : Option Addr) (c2 : Nat) (l2 : List (List Int)) (A3 : Option Addr) (c3 : Nat) (l3 : List Bool) (base' tracks' : Int) (B2 : Option Addr) (d2 : Nat) (m2 : List (List Int)) (B3 : Option Addr) (d3 : Nat) (m3 : List Bool) (how : Int) (hhow : how = 14 ∨ how = 8 ∨ how = 4) (W : World) (hC2 : kL.C W A2 l2.length l2) (h2 : l2.length ≤ c2) (hC3 : kB.C W A3 l3.length l3) (h3 : l3.length ≤ c3) (hD2 : kL.C W B2 m2.length m2) (g2 : m2.length ≤ d2) (hD3 : kB.C W B3 m3.length m3) (g3 : m3.length ≤ d3) :
    Calls Try.prog 16 #[.agg #[.int .i64 base, .int .i64 tracks, .slice A2 l2.length c2, .slice A3 l3.length c3], .agg #[.int .i64 base', .int .i64 tracks', .slice B2 m2.length d2, .slice B3 m3.length d3], .int .i64 how] W fun e w' => Below W.heap.size W w' ∧
      BothPost how base tracks l2 l3 base' tracks' m2 m3 W.heap.size e w' := by
  have HH := Aside0.mk hhow
  have hlo : ¬ how < 0 := by omega
  have hhi : ¬ how > 15 := by omega
  have HC2 := Aside0.mk hC2
  have HC3 := Aside0.mk hC3
  have H2 := Aside0.mk h2
  have H3 := Aside0.mk h3
  have HD2 := Aside0.mk hD2
  have HD3 := Aside0.mk hD3
  have G2 := Aside0.mk g2
  have G3 := Aside0.mk g3
  clear hC2 hC3 h2 h3 hD2 hD3 g2 g3 hhow
  have HM := Mem.start W
  by_cases hok : ∃ n T T', AlikeOk base tracks l2 l3 base' tracks' m2 m3 n T T'
  · obtain ⟨n, T, T', hok⟩ := hok
    have HALL := Aside0.mk (show ∃ n T T', AlikeOk base tracks l2 l3 base' tracks' m2 m3 n T T' from ⟨n, T, T', hok⟩)
    have HOK := Aside0.mk hok
    obtain ⟨hka, hkb, rfl, rfl⟩ := hok
    obtain ⟨hn, hn36⟩ := manyN_le hka.many
    have hwa := hka.wf
    have hwb := hkb.wf
    have hsa := hka.small
    have hsb := hkb.small
    obtain rfl := hka.eq
    obtain rfl := hkb.eq
    have HWA := Aside0.mk hwa
    have HWB := Aside0.mk hwb
    have HSA := Aside0.mk hsa
    have HSB := Aside0.mk hsb
    obtain ⟨d, hd⟩ : ∃ d, d = dP T T' := ⟨_, rfl⟩
    obtain ⟨F, hF⟩ : ∃ F, F = fun i => bfsI (succs n d) (0, 0) i := ⟨_, rfl⟩
    have HD := Aside0.mk hd
    have HF := Aside0.mk hF
    have HF0 := Aside0.mk (show F 0 = [(0, 0)] by rw [hF]; rfl)
    have HFL := Aside0.mk (show ∀ i, (F i).length ≤ 6400 from fun i => by
      have h1 := bothI_le hwa hwb i
      rw [← hd] at h1
      rw [hF]
      exact Nat.le_trans h1 (Nat.mul_le_mul hsa hsb))
    have HFT := Aside0.mk (show ∀ i, ∀ p ∈ F i, p.1 < T.length ∧ p.2 < T'.length from fun i p hp => by
      rw [hF, hd] at hp
      exact bothI_lt hwa hwb i p hp)
    have HN := Aside0.mk (show 1 ≤ n ∧ n ≤ 36 from ⟨hn, hn36⟩)
    clear hka hkb hn hn36 hwa hwb hsa hsb hd hF
    go_enter Try.func16, Try.ntmps16
    go_upto_region 11 with (first
      | ((with_reducible refine gate_dst (N := 3) rfl ?_); refine box_event ?hg (N := 3) ?hd (cs := #[.int .i64 base, .int .i64 tracks, .slice A2 (II T).length c2, .slice A3 l3.length c3]) (t := 25) ?hr ?_; (case hd => rfl); (case hg => rfl); (case hr => first | (go_simp; done) | (go_simp; rfl)); intro q3 hg1 w1 hb1 hbel; have HM1 := HM.blk_ hg1 hb1 hbel; clear HM hg1 hb1 hbel)
      | ((with_reducible refine gate_dst (N := 4) rfl ?_); refine box_event ?hg (N := 4) ?hd (cs := #[.int .i64 base, .int .i64 tracks, .slice B2 (II T').length d2, .slice B3 m3.length d3]) (t := 25) ?hr ?_; (case hd => rfl); (case hg => rfl); (case hr => first | (go_simp; done) | (go_simp; rfl)); intro q4 hg1 w2 hb1 hbel; have HM2 := HM1.blk_ hg1 hb1 hbel; clear HM1 hg1 hb1 hbel)
      | ((with_reducible refine gate_dst (N := 6) rfl ?_); refine box_event ?hg (N := 6) ?hd (cs := #[.int .i64 0, .int .i64 0, .slice none 0 0, .slice none 0 0]) (t := 25) ?hr ?_; (case hd => rfl); (case hg => rfl); (case hr => first | (go_simp; done) | (go_simp; rfl)); intro q6 hg1 w3 hb1 hbel; have HM3 := HM2.blk_ hg1 hb1 hbel; clear HM2 hg1 hb1 hbel)
      | ((with_reducible refine gate_dst (N := 32) rfl ?_); (refine HM3.loadAll 2 rfl 25 (.tmp 3) rfl _ rfl Try.underlying25 rfl (by exact infoA4) rfl ?_))
      | ((with_reducible refine gate_dst (N := 33) rfl ?_); (refine HM3.loadAll 1 rfl 25 (.tmp 4) rfl _ rfl Try.underlying25 rfl (by exact infoA4) rfl ?_))
      | (go_at_call 33; (refine (alike_calls base tracks A2 c2 (II T) A3 c3 l3 base tracks B2 d2 (II T') B3 d3 m3 _ (Kd.C_below HC2.out HM3.below) H2.out (Kd.C_below HC3.out HM3.below) H3.out (Kd.C_below HD2.out HM3.below) G2.out (Kd.C_below HD3.out HM3.below) G3.out).mono ?_; rintro e w4 ⟨hb, hcase⟩; have hcase2 : e = .returned .nilIface := (by rcases hcase with ⟨h, _⟩ | ⟨_, _, _, h⟩; (exact h); (exact absurd HALL.out h)); subst hcase2; clear hcase; have HM4 := HM3.grow hb; clear HM3 hb))
      | ((with_reducible refine gate_dst (N := 39) rfl ?_); (refine HM4.mapMake rfl 63 62 3 rfl ?_; intro B w5 HM5; clear HM4))
      | ((with_reducible refine gate_ins (t := 63) (m := .tmp 39) (x := .tmp 40) rfl ?_); (refine HM5.mapIns 0 rfl rfl (.tmp 39) (.tmp 40) _ 63 62 3 rfl keyA Try.underlying63 Try.underlying3 B [] rfl rfl _ (kl2 0 0) rfl rfl (key2 (t := 0) (l := 0) (by decide) (by decide)) (by simp) (by simp) ?_; intro w6 HM6; clear HM5))
      | ((with_reducible refine gate_dst (N := 43) rfl ?_); (refine HM6.litD kP 62 rfl (N := 43) rfl (pI (0, 0)) #[.int .i64 0, .int .i64 0] (pM _ _ _ (0, 0)) ?hr ?_; (case hr => first | (go_simp; done) | (go_simp; rfl)); intro v43 w7 HM7; clear HM6)))
    have HM8 := (((HM7.nil kL 26).nil kB 4).front 1 rfl)
    clear HM7
    replace HM8 := (HM8.front 3 rfl).front 3 rfl
    rw [show [kl2 0 0] = (F 0).map kp by rw [HF0.out]; rfl] at HM8
    go_wp2
    go_loopg [10, 11, 12, 13] 6400 (fun gk v10 v11 v12 v13 w' => ∃ i : Nat, v13 = .int .i64 i ∧ Aside0 (gk + i = 6400) ∧ Mem W.heap.size (fun _ => False) W w' [row kP 62 v10 (PP (F i)), imap Try.prog 62 3 B ((F i).map kp), row kL 26 v11 (II (rowsTo n d (F i) i)), row kB 4 v12 (((F i).take i).map (eP how l3 m3)), blk q6 #[.int .i64 0, .int .i64 0, .slice none 0 0, .slice none 0 0] 25, blk q4 #[.int .i64 base, .int .i64 tracks, .slice B2 (II T').length d2, .slice B3 m3.length d3] 25, blk q3 #[.int .i64 base, .int .i64 tracks, .slice A2 (II T).length c2, .slice A3 l3.length c3] 25])
    case atStart => exact ⟨0, rfl, ⟨rfl⟩, by rw [HF0.out] at HM8 ⊢; exact HM8⟩
    case round =>
      clear HM8
      obtain ⟨g1, rfl⟩ : ∃ x : Nat, x = gk := ⟨_, rfl⟩
      obtain ⟨w10, rfl⟩ : ∃ x : World, x = wr := ⟨_, rfl⟩
      obtain ⟨i, rfl, HK, HM⟩ := hrel
      obtain ⟨P, hP⟩ : ∃ P, P = F i := ⟨_, rfl⟩
      rw [← hP] at HM
      obtain ⟨A10, c10, e10, _, hC10⟩ := HM.rowSlice (i := 0) rfl
      rw [PP_len] at e10
      subst e10
      have HP := Aside0.mk hP
      have hPl : P.length ≤ 6400 := by rw [hP]; exact HFL.out i
      by_cases hlt : i < P.length
      · obtain ⟨⟨x, y⟩, hp⟩ : ∃ p, P[i]? = some p := ⟨_, List.getElem?_eq_getElem hlt⟩
        obtain ⟨hx, hy⟩ := HFT.out i (x, y) (by rw [← hP]; exact List.mem_of_getElem? hp)
        have hx : x < T.length := hx
        have hy : y < T'.length := hy
        have hbs := bfsI_succ_some (succs n d) (0, 0) (i := i) (x := (x, y)) (by rw [show bfsI (succs n d) (0, 0) i = F i by rw [HF.out], ← hP]; exact hp)
        have hrow := rowsTo_succ n d (a := (0, 0)) (i := i) (x := (x, y)) (by rw [show bfsI (succs n d) (0, 0) i = F i by rw [HF.out], ← hP]; exact hp)
        have hpre := bfsI_step_prefix (succs n d) (0, 0) i
        rw [show bfsI (succs n d) (0, 0) i = F i by rw [HF.out], show bfsI (succs n d) (0, 0) (i + 1) = F (i + 1) by rw [HF.out], ← hP] at hbs hrow hpre
        have htk : ((F (i + 1)).take (i + 1)).map (eP how l3 m3) = (P.take i).map (eP how l3 m3) ++ [eP how l3 m3 (x, y)] := by
          obtain ⟨t, ht⟩ := hpre
          have hx2 : P[i] = (x, y) := by have := List.getElem?_eq_getElem hlt; rw [hp] at this; injection this with this; exact this.symm
          rw [← ht, List.take_append_of_le_length (by omega), take_snoc' hlt, hx2, List.map_append, List.map_singleton]
        have hPn : P.Nodup := by rw [hP, HF.out]; exact bfsI_nodup _ _ _
        obtain ⟨TT, hTT⟩ : ∃ TT, TT = rowsTo n d P i := ⟨_, rfl⟩
        have hTl : TT.length ≤ 6400 := by rw [hTT]; unfold rowsTo; rw [List.length_map, List.length_take]; omega
        obtain ⟨EE, hEE⟩ : ∃ EE, EE = (P.take i).map (eP how l3 m3) := ⟨_, rfl⟩
        have hEl : EE.length ≤ 6400 := by rw [hEE, List.length_map, List.length_take]; omega
        rw [← hTT] at HM hrow
        rw [← hEE] at HM htk
        obtain ⟨ad10, eA10, hp0, hp1⟩ := pair_at hC10 hp
        subst eA10
        obtain ⟨ad2, A1, c1, eA2, hcA, hlA, hCA⟩ := row_at HC2.out hx
        obtain ⟨bd2, B1, d1, eB2, hcB, hlB, hCB⟩ := row_at HD2.out hy
        obtain ⟨r, hr⟩ : ∃ r, r = T.getD x [] := ⟨_, rfl⟩
        obtain ⟨s, hs⟩ : ∃ s, s = T'.getD y [] := ⟨_, rfl⟩
        rw [← hr, I_len] at hcA hlA
        rw [← hs, I_len] at hcB hlB
        rw [← hr] at hCA
        rw [← hs] at hCB
        have hrn : r.length = n := by rw [hr]; exact HWA.out.row_len hx
        have hsn : s.length = n := by rw [hs]; exact HWB.out.row_len hy
        obtain ⟨ad3, e3, hcE⟩ := Kd.at_bool HC3.out (x : Int) (by omega) (by have := HWA.out.len; omega)
        obtain ⟨bd3, f3, hcF⟩ := Kd.at_bool HD3.out (y : Int) (by omega) (by have := HWB.out.len; omega)
        rw [Int.toNat_natCast, rdB] at hcE hcF
        subst eA2 eB2 e3 f3
        have hxI : x < (II T).length := by rw [II_len]; exact hx
        have hyI : y < (II T').length := by rw [II_len]; exact hy
        have hxE : x < l3.length := by rw [HWA.out.len]; exact hx
        have hyE : y < m3.length := by rw [HWB.out.len]; exact hy
        have HCA := Aside0.mk hCA
        have HCB := Aside0.mk hCB
        have HcA := Aside0.mk hcA
        have HcB := Aside0.mk hcB
        have HcE := Aside0.mk hcE
        have HcF := Aside0.mk hcF
        have HR := Aside0.mk hr
        have HS := Aside0.mk hs
        have HRN := Aside0.mk (And.intro hrn hsn)
        have HBS := Aside0.mk hbs
        have HROW := Aside0.mk hrow
        have HTK := Aside0.mk htk
        have HPN := Aside0.mk hPn
        have HPL := Aside0.mk (show P.length ≤ 6400 ∧ TT.length ≤ 6400 ∧ EE.length ≤ 6400 from ⟨hPl, hTl, hEl⟩)
        have HXY := Aside0.mk (And.intro hx hy)
        have HPX := Aside0.mk hp
        clear hCA hCB hcE hcF hr hs hbs hrow hpre htk hPn hTT hEE hTl hEl hx hy hrn hsn hp hcB hC10 hP
        have HM1 := HM.grow (Below.refl _ _).drew
        clear HM
        go_wp2_with fail
        refine start_ (n := 12) (S := fun w' => w'.cell? (ad10.add (i * 2)) = some (.int .i64 (x : Int)) ∧ w'.cell? ⟨(ad10.add (i * 2)).block, (ad10.add (i * 2)).off + 1, none⟩ = some (.int .i64 (y : Int))) (ds := []) #[false, false, false, false, false, false, false, false, false, false, false, false] (by kernel_rfl) rfl rfl ⟨hp0, hp1⟩ (fun hHeld => ?_)
        generalize w10.drew = w11 at HM1 hHeld ⊢
        refine pure_ (i := 0) (N := some 50) (v := ?_) (a' := ?_) #[true, false, false, false, false, false, false, false, false, false, false, false] rfl rfl (by kernel_rfl) (fun _ _ _ h => h) (Or.inl ⟨by rfl, ?_⟩) ?_ ?_
        rotate_left
        · intro w'
          go_simp
          with_reducible rfl
        rotate_left
        · simp only [Act.put, List.setIfInBounds_toArray, List.set_cons_zero, List.set_cons_succ, i64_w, i32_w]
          rfl
        refine pure_ (i := 1) (N := some 51) (v := ?_) (a' := ?_) #[true, true, false, false, false, false, false, false, false, false, false, false] rfl rfl (by kernel_rfl) (fun _ _ _ h => h) (Or.inl ⟨by rfl, ?_⟩) ?_ ?_
        rotate_left
        · intro w'
          go_simp
          with_reducible rfl
        rotate_left
        · simp only [Act.put, List.setIfInBounds_toArray, List.set_cons_zero, List.set_cons_succ, i64_w, i32_w]
          rfl
        refine pure_ (i := 2) (N := some 52) (v := ?_) (a' := ?_) #[true, true, true, false, false, false, false, false, false, false, false, false] rfl rfl (by kernel_rfl) (fun _ _ _ h => h) (Or.inl ⟨by rfl, ?_⟩) ?_ ?_
        rotate_left
        · intro w'
          go_simp
          with_reducible rfl
        rotate_left
        · simp only [Act.put, List.setIfInBounds_toArray, List.set_cons_zero, List.set_cons_succ, i64_w, i32_w]
          rfl
        refine pure_ (i := 3) (N := some 53) (v := ?_) (a' := ?_) #[true, true, true, true, false, false, false, false, false, false, false, false] rfl rfl (by kernel_rfl) (fun _ _ _ h => h) (Or.inl ⟨by rfl, ?_⟩) ?_ ?_
        rotate_left
        · intro w'
          go_simp
          with_reducible rfl
        rotate_left
        · simp only [Act.put, List.setIfInBounds_toArray, List.set_cons_zero, List.set_cons_succ, i64_w, i32_w]
          rfl
        refine pure_ (i := 5) (N := some 55) (v := ?_) (a' := ?_) #[true, true, true, true, false, true, false, false, false, false, false, false] rfl rfl (by kernel_rfl) (fun _ _ _ h => h) (Or.inl ⟨by rfl, ?_⟩) ?_ ?_
        rotate_left
        · intro w'
          go_simp
          with_reducible rfl
        rotate_left
        · simp only [Act.put, List.setIfInBounds_toArray, List.set_cons_zero, List.set_cons_succ, i64_w, i32_w]
          rfl
        refine pure_ (i := 6) (N := some 56) (v := ?_) (a' := ?_) #[true, true, true, true, false, true, true, false, false, false, false, false] rfl rfl (by kernel_rfl) (fun _ _ _ h => h) (Or.inl ⟨by rfl, ?_⟩) ?_ ?_
        rotate_left
        · intro w'
          go_simp
          with_reducible rfl
        rotate_left
        · simp only [Act.put, List.setIfInBounds_toArray, List.set_cons_zero, List.set_cons_succ, i64_w, i32_w]
          rfl
        refine pure_ (i := 7) (N := some 57) (v := ?_) (a' := ?_) #[true, true, true, true, false, true, true, true, false, false, false, false] rfl rfl (by kernel_rfl) (fun _ _ _ h => h) (Or.inl ⟨by rfl, ?_⟩) ?_ ?_
        rotate_left
        · intro w'
          go_simp
          with_reducible rfl
        rotate_left
        · simp only [Act.put, List.setIfInBounds_toArray, List.set_cons_zero, List.set_cons_succ, i64_w, i32_w]
          rfl
        refine pure_ (i := 8) (N := some 58) (v := ?_) (a' := ?_) #[true, true, true, true, false, true, true, true, true, false, false, false] rfl rfl (by kernel_rfl) (fun _ _ _ h => h) (Or.inl ⟨by rfl, ?_⟩) ?_ ?_
        rotate_left
        · intro w'
          go_simp
          with_reducible rfl
        rotate_left
        · simp only [Act.put, List.setIfInBounds_toArray, List.set_cons_zero, List.set_cons_succ, i64_w, i32_w]
          rfl
        refine take_ (i := 4) (N := some 54) (v := ?_) (a' := ?_) #[true, true, true, true, true, true, true, true, true, false, false, false] rfl rfl (by kernel_rfl) (fun _ _ _ h => h) (Or.inl ⟨by rfl, ?_⟩) hHeld ?_ ?_
        rotate_left
        · rintro w' ⟨s0, s1⟩
          go_simp
          with_reducible rfl
        rotate_left
        · simp only [Act.put, List.setIfInBounds_toArray, List.set_cons_zero, List.set_cons_succ, i64_w, i32_w]
          rfl
        refine pure_ (i := 10) (N := some 14) (v := ?_) (a' := ?_) #[true, true, true, true, true, true, true, true, true, false, true, false] rfl rfl (by kernel_rfl) (fun _ _ _ h => h) (Or.inl ⟨by rfl, ?_⟩) ?_ ?_
        rotate_left
        · intro w'
          go_simp
          with_reducible rfl
        rotate_left
        · simp only [Act.put, List.setIfInBounds_toArray, List.set_cons_zero, List.set_cons_succ, i64_w, i32_w]
          rfl
        refine take_ (i := 9) (N := some 59) (v := ?_) (a' := ?_) #[true, true, true, true, true, true, true, true, true, true, true, false] rfl rfl (by kernel_rfl) (fun _ _ _ h => h) (Or.inl ⟨by rfl, ?_⟩) hHeld ?_ ?_
        rotate_left
        · rintro w' ⟨s0, s1⟩
          go_simp
          with_reducible rfl
        rotate_left
        · simp only [Act.put, List.setIfInBounds_toArray, List.set_cons_zero, List.set_cons_succ, i64_w, i32_w]
          rfl
        refine pure_ (i := 11) (N := some 15) (v := ?_) (a' := ?_) #[true, true, true, true, true, true, true, true, true, true, true, true] rfl rfl (by kernel_rfl) (fun _ _ _ h => h) (Or.inl ⟨by rfl, ?_⟩) ?_ ?_
        rotate_left
        · intro w'
          go_simp
          with_reducible rfl
        rotate_left
        · simp only [Act.put, List.setIfInBounds_toArray, List.set_cons_zero, List.set_cons_succ, i64_w, i32_w]
          rfl
        refine done_ (by kernel_rfl) ?_
        have hf2 : w11.cell? ⟨q3, 2, none⟩ = some (.slice (some ad2) (II T).length c2) := (HM1.cell (i := 6) rfl 2).1
        replace hcA := pw_cell_below HM1.below hcA
        clear hp0 hp1
        go_wp2
        go_loopg [10, 16, 66] r.length (fun gk v10 v16 v66 w' => ∃ l : Nat, v66 = .int .i64 l ∧ Aside0 (gk + l = r.length) ∧ Mem W.heap.size (fun _ => False) W w' [row kI 3 v16 (I (((succs n d (x, y)).take l).map (ix (addAll P ((succs n d (x, y)).take l))))), row kP 62 v10 (PP (addAll P ((succs n d (x, y)).take l))), imap Try.prog 62 3 B ((addAll P ((succs n d (x, y)).take l)).map kp), row kL 26 u11 (II TT), row kB 4 u12 EE, blk q6 #[.int .i64 0, .int .i64 0, .slice none 0 0, .slice none 0 0] 25, blk q4 #[.int .i64 base, .int .i64 tracks, .slice (some bd2) (II T').length d2, .slice (some bd3) m3.length d3] 25, blk q3 #[.int .i64 base, .int .i64 tracks, .slice (some ad2) (II T).length c2, .slice (some ad3) l3.length c3] 25])
        case atStart => exact ⟨0, rfl, ⟨by omega⟩, HM1.nil kI 3⟩
        case round =>
          clear HM1 hf2 hcA
          obtain ⟨g2, rfl⟩ : ∃ x : Nat, x = gk := ⟨_, rfl⟩
          obtain ⟨w20, rfl⟩ : ∃ x : World, x = wr := ⟨_, rfl⟩
          obtain ⟨l, rfl, HKl, HM⟩ := hrel
          have hll : l ≤ r.length := by have := HKl.out; omega
          by_cases hl : l < r.length
          · have hln : l < n := by have := HRN.out.1; omega
            have hls : l < s.length := by have := HRN.out.2; omega
            have hst := succs_take n d (x := (x, y)) hln
            obtain ⟨xs, hxs⟩ : ∃ xs, xs = (succs n d (x, y)).take l := ⟨_, rfl⟩
            rw [← hxs] at HM hst
            have hxl : xs.length ≤ n := by rw [hxs, List.length_take]; omega
            have hn36 := HN.out.2
            obtain ⟨Q, hQ⟩ : ∃ Q, Q = addAll P xs := ⟨_, rfl⟩
            rw [← hQ] at HM
            have hQl : Q.length ≤ 6500 := by have := addAll_length_le' xs P; rw [← hQ] at this; have := HPL.out.1; omega
            have hQt : ∀ q ∈ Q, q.1 < 80 ∧ q.2 < 80 := by
              intro q hq
              have hq2 : q ∈ F (i + 1) := by
                rw [HBS.out, mem_addAll]
                rw [hQ, mem_addAll] at hq
                rcases hq with hq | hq
                · exact .inl hq
                · rw [hxs] at hq
                  exact .inr (List.mem_of_mem_take hq)
              have h1 := HFT.out (i + 1) q hq2
              have h2 := HSA.out
              have h3 := HSB.out
              exact ⟨by omega, by omega⟩
            obtain ⟨tx, htx⟩ : ∃ tx, tx = nx T x l := ⟨_, rfl⟩
            obtain ⟨ty, hty⟩ : ∃ ty, ty = nx T' y l := ⟨_, rfl⟩
            have hz : d (x, y) l = (tx, ty) := by rw [HD.out, htx, hty]; rfl
            have hzt : tx < 80 ∧ ty < 80 := by
              have h1 := HWA.out.nx_lt HXY.out.1 hln
              have h2 := HWB.out.nx_lt HXY.out.2 hln
              have h3 := HSA.out
              have h4 := HSB.out
              exact ⟨by omega, by omega⟩
            have hQn : Q.Nodup := by rw [hQ]; exact addAll_nodup HPN.out
            have hQ1 := addAll_snoc P xs (tx, ty)
            rw [← hQ, ← hz, ← hst, hz] at hQ1
            have hr1 : ((succs n d (x, y)).take (l + 1)).map (ix (addAll P ((succs n d (x, y)).take (l + 1)))) = xs.map (ix Q) ++ [ix (addAll P ((succs n d (x, y)).take (l + 1))) (tx, ty)] := by
              rw [hst, List.map_append, List.map_singleton, hz]
              congr 1
              have h0 := @addAll_prefix (Nat × Nat) _ [(tx, ty)] Q
              rw [show addAll P (xs ++ [(tx, ty)]) = addAll Q [(tx, ty)] by rw [addAll_append, ← hQ]]
              exact (map_idx_prefix h0 (fun x hx => by rw [hQ, mem_addAll]; exact .inr hx)).symm
            obtain ⟨rl, hrl⟩ : ∃ rl, rl = xs.map (ix Q) := ⟨_, rfl⟩
            rw [← hrl] at HM hr1
            have hrll : rl.length ≤ 1000 := by rw [hrl, List.length_map]; omega
            obtain ⟨ad1, eA1, hcX⟩ := Kd.at_int HCA.out (l : Int) (by omega) (by rw [I_len]; omega)
            obtain ⟨bd1, eB1, hcY⟩ := Kd.at_int HCB.out (l : Int) (by omega) (by rw [I_len]; omega)
            rw [Int.toNat_natCast, rd_I, HR.out, show (T.getD x []).getD l 0 = tx by rw [htx]; rfl] at hcX
            rw [Int.toNat_natCast, rd_I, HS.out, show (T'.getD y []).getD l 0 = ty by rw [hty]; rfl] at hcY
            subst eA1 eB1
            have HcX := Aside0.mk hcX
            have HcY := Aside0.mk hcY
            have HR1 := Aside0.mk hr1
            have HKEY := Aside0.mk (key2 (t := tx) (l := ty) (by omega) (by omega))
            obtain ⟨AQ, cQ, eQ, _, _⟩ := HM.rowSlice (i := 1) rfl
            rw [PP_len] at eQ
            subst eQ
            have HM1 := HM.grow (Below.refl _ _).drew
            have hv1 := (HM1.cell (i := 7) rfl 2).1
            have hv2 := (HM1.cell (i := 6) rfl 2).1
            have hv3 := pw_cell_below HM1.below HcA.out
            have hv4 := pw_cell_below HM1.below HcB.out
            have hv5 := pw_cell_below HM1.below hcX
            have hv6 := pw_cell_below HM1.below hcY
            have HZT := Aside0.mk hzt
            have HQT := Aside0.mk hQt
            have hxI : x < (II T).length := by rw [II_len]; exact HXY.out.1
            have hyI : y < (II T').length := by rw [II_len]; exact HXY.out.2
            clear HM hcX hcY hr1 hst hxs hrl htx hty hz hQt hzt hQn hxl hQ
            go_wp2_with fail
            refine start_ (n := 19) (S := fun w' => w'.cell? ⟨q3, 2, none⟩ = some (.slice (some ad2) (II T).length c2) ∧ w'.cell? (ad2.add x) = some (.slice (some ad1) r.length c1) ∧ w'.cell? (ad1.add l) = some (.int .i64 (tx : Int)) ∧ w'.cell? ⟨q4, 2, none⟩ = some (.slice (some bd2) (II T').length d2) ∧ w'.cell? (bd2.add y) = some (.slice (some bd1) s.length d1) ∧ w'.cell? (bd1.add l) = some (.int .i64 (ty : Int))) (ds := [18]) #[false, false, false, false, false, false, false, false, false, false, false, false, false, false, false, false, false, false, false] (by kernel_rfl) rfl rfl ⟨hv1, hv3, hv5, hv2, hv4, hv6⟩ (fun hHeld => ?_)
            generalize w20.drew = w21 at HM1 hHeld ⊢
            refine pure_ (i := 0) (N := some 69) (v := ?_) (a' := ?_) #[true, false, false, false, false, false, false, false, false, false, false, false, false, false, false, false, false, false, false] rfl rfl (by kernel_rfl) (fun _ _ _ h => h) (Or.inl ⟨by rfl, ?_⟩) ?_ ?_
            rotate_left
            · intro w'
              go_simp
              with_reducible rfl
            rotate_left
            · simp only [Act.put, List.setIfInBounds_toArray, List.set_cons_zero, List.set_cons_succ, i64_w, i32_w]
              rfl
            refine pure_ (i := 2) (N := some 71) (v := ?_) (a' := ?_) #[true, false, true, false, false, false, false, false, false, false, false, false, false, false, false, false, false, false, false] rfl rfl (by kernel_rfl) (fun _ _ _ h => h) (Or.inl ⟨by rfl, ?_⟩) ?_ ?_
            rotate_left
            · intro w'
              go_simp
              with_reducible rfl
            rotate_left
            · simp only [Act.put, List.setIfInBounds_toArray, List.set_cons_zero, List.set_cons_succ, i64_w, i32_w]
              rfl
            refine pure_ (i := 5) (N := some 74) (v := ?_) (a' := ?_) #[true, false, true, false, false, true, false, false, false, false, false, false, false, false, false, false, false, false, false] rfl rfl (by kernel_rfl) (fun _ _ _ h => h) (Or.inl ⟨by rfl, ?_⟩) ?_ ?_
            rotate_left
            · intro w'
              go_simp
              with_reducible rfl
            rotate_left
            · simp only [Act.put, List.setIfInBounds_toArray, List.set_cons_zero, List.set_cons_succ, i64_w, i32_w]
              rfl
            refine pure_ (i := 8) (N := some 77) (v := ?_) (a' := ?_) #[true, false, true, false, false, true, false, false, true, false, false, false, false, false, false, false, false, false, false] rfl rfl (by kernel_rfl) (fun _ _ _ h => h) (Or.inl ⟨by rfl, ?_⟩) ?_ ?_
            rotate_left
            · intro w'
              go_simp
              with_reducible rfl
            rotate_left
            · simp only [Act.put, List.setIfInBounds_toArray, List.set_cons_zero, List.set_cons_succ, i64_w, i32_w]
              rfl
            refine pure_ (i := 10) (N := some 79) (v := ?_) (a' := ?_) #[true, false, true, false, false, true, false, false, true, false, true, false, false, false, false, false, false, false, false] rfl rfl (by kernel_rfl) (fun _ _ _ h => h) (Or.inl ⟨by rfl, ?_⟩) ?_ ?_
            rotate_left
            · intro w'
              go_simp
              with_reducible rfl
            rotate_left
            · simp only [Act.put, List.setIfInBounds_toArray, List.set_cons_zero, List.set_cons_succ, i64_w, i32_w]
              rfl
            refine pure_ (i := 13) (N := some 82) (v := ?_) (a' := ?_) #[true, false, true, false, false, true, false, false, true, false, true, false, false, true, false, false, false, false, false] rfl rfl (by kernel_rfl) (fun _ _ _ h => h) (Or.inl ⟨by rfl, ?_⟩) ?_ ?_
            rotate_left
            · intro w'
              go_simp
              with_reducible rfl
            rotate_left
            · simp only [Act.put, List.setIfInBounds_toArray, List.set_cons_zero, List.set_cons_succ, i64_w, i32_w]
              rfl
            refine take_ (i := 1) (N := some 70) (v := ?_) (a' := ?_) #[true, true, true, false, false, true, false, false, true, false, true, false, false, true, false, false, false, false, false] rfl rfl (by kernel_rfl) (fun _ _ _ h => h) (Or.inl ⟨by rfl, ?_⟩) hHeld ?_ ?_
            rotate_left
            · rintro w' ⟨s0, s1, s2, s3, s4, s5⟩
              go_simp
              with_reducible rfl
            rotate_left
            · simp only [Act.put, List.setIfInBounds_toArray, List.set_cons_zero, List.set_cons_succ, i64_w, i32_w]
              rfl
            refine pure_ (i := 3) (N := some 72) (v := ?_) (a' := ?_) #[true, true, true, true, false, true, false, false, true, false, true, false, false, true, false, false, false, false, false] rfl rfl (by kernel_rfl) (fun _ _ _ h => h) (Or.inl ⟨by rfl, ?_⟩) ?_ ?_
            rotate_left
            · intro w'
              go_simp
              with_reducible rfl
            rotate_left
            · simp only [Act.put, List.setIfInBounds_toArray, List.set_cons_zero, List.set_cons_succ, i64_w, i32_w]
              rfl
            refine take_ (i := 4) (N := some 73) (v := ?_) (a' := ?_) #[true, true, true, true, true, true, false, false, true, false, true, false, false, true, false, false, false, false, false] rfl rfl (by kernel_rfl) (fun _ _ _ h => h) (Or.inl ⟨by rfl, ?_⟩) hHeld ?_ ?_
            rotate_left
            · rintro w' ⟨s0, s1, s2, s3, s4, s5⟩
              go_simp
              with_reducible rfl
            rotate_left
            · simp only [Act.put, List.setIfInBounds_toArray, List.set_cons_zero, List.set_cons_succ, i64_w, i32_w]
              rfl
            refine pure_ (i := 6) (N := some 75) (v := ?_) (a' := ?_) #[true, true, true, true, true, true, true, false, true, false, true, false, false, true, false, false, false, false, false] rfl rfl (by kernel_rfl) (fun _ _ _ h => h) (Or.inl ⟨by rfl, ?_⟩) ?_ ?_
            rotate_left
            · intro w'
              go_simp
              with_reducible rfl
            rotate_left
            · simp only [Act.put, List.setIfInBounds_toArray, List.set_cons_zero, List.set_cons_succ, i64_w, i32_w]
              rfl
            refine take_ (i := 7) (N := some 76) (v := ?_) (a' := ?_) #[true, true, true, true, true, true, true, true, true, false, true, false, false, true, false, false, false, false, false] rfl rfl (by kernel_rfl) (fun _ _ _ h => h) (Or.inl ⟨by rfl, ?_⟩) hHeld ?_ ?_
            rotate_left
            · rintro w' ⟨s0, s1, s2, s3, s4, s5⟩
              go_simp
              with_reducible rfl
            rotate_left
            · simp only [Act.put, List.setIfInBounds_toArray, List.set_cons_zero, List.set_cons_succ, i64_w, i32_w]
              rfl
            refine take_ (i := 9) (N := some 78) (v := ?_) (a' := ?_) #[true, true, true, true, true, true, true, true, true, true, true, false, false, true, false, false, false, false, false] rfl rfl (by kernel_rfl) (fun _ _ _ h => h) (Or.inl ⟨by rfl, ?_⟩) hHeld ?_ ?_
            rotate_left
            · rintro w' ⟨s0, s1, s2, s3, s4, s5⟩
              go_simp
              with_reducible rfl
            rotate_left
            · simp only [Act.put, List.setIfInBounds_toArray, List.set_cons_zero, List.set_cons_succ, i64_w, i32_w]
              rfl
            refine pure_ (i := 11) (N := some 80) (v := ?_) (a' := ?_) #[true, true, true, true, true, true, true, true, true, true, true, true, false, true, false, false, false, false, false] rfl rfl (by kernel_rfl) (fun _ _ _ h => h) (Or.inl ⟨by rfl, ?_⟩) ?_ ?_
            rotate_left
            · intro w'
              go_simp
              with_reducible rfl
            rotate_left
            · simp only [Act.put, List.setIfInBounds_toArray, List.set_cons_zero, List.set_cons_succ, i64_w, i32_w]
              rfl
            refine take_ (i := 12) (N := some 81) (v := ?_) (a' := ?_) #[true, true, true, true, true, true, true, true, true, true, true, true, true, true, false, false, false, false, false] rfl rfl (by kernel_rfl) (fun _ _ _ h => h) (Or.inl ⟨by rfl, ?_⟩) hHeld ?_ ?_
            rotate_left
            · rintro w' ⟨s0, s1, s2, s3, s4, s5⟩
              go_simp
              with_reducible rfl
            rotate_left
            · simp only [Act.put, List.setIfInBounds_toArray, List.set_cons_zero, List.set_cons_succ, i64_w, i32_w]
              rfl
            refine pure_ (i := 14) (N := some 83) (v := ?_) (a' := ?_) #[true, true, true, true, true, true, true, true, true, true, true, true, true, true, true, false, false, false, false] rfl rfl (by kernel_rfl) (fun _ _ _ h => h) (Or.inl ⟨by rfl, ?_⟩) ?_ ?_
            rotate_left
            · intro w'
              go_simp
              with_reducible rfl
            rotate_left
            · simp only [Act.put, List.setIfInBounds_toArray, List.set_cons_zero, List.set_cons_succ, i64_w, i32_w]
              rfl
            refine take_ (i := 15) (N := some 84) (v := ?_) (a' := ?_) #[true, true, true, true, true, true, true, true, true, true, true, true, true, true, true, true, false, false, false] rfl rfl (by kernel_rfl) (fun _ _ _ h => h) (Or.inl ⟨by rfl, ?_⟩) hHeld ?_ ?_
            rotate_left
            · rintro w' ⟨s0, s1, s2, s3, s4, s5⟩
              go_simp
              with_reducible rfl
            rotate_left
            · simp only [Act.put, List.setIfInBounds_toArray, List.set_cons_zero, List.set_cons_succ, i64_w, i32_w]
              rfl
            refine pure_ (i := 16) (N := some 85) (v := ?_) (a' := ?_) #[true, true, true, true, true, true, true, true, true, true, true, true, true, true, true, true, true, false, false] rfl rfl (by kernel_rfl) (fun _ _ _ h => h) (Or.inl ⟨by rfl, ?_⟩) ?_ ?_
            rotate_left
            · intro w'
              go_simp
              with_reducible rfl
            rotate_left
            · simp only [Act.put, List.setIfInBounds_toArray, List.set_cons_zero, List.set_cons_succ, i64_w, i32_w]
              rfl
            refine one_ (i := 17) (N := some 18) #[true, true, true, true, true, true, true, true, true, true, true, true, true, true, true, true, true, true, false] rfl rfl (by kernel_rfl) (by decide) (fun K hK => ?_)
            refine HM1.boxStep (by rfl) (N := 18) rfl (cs := #[.int .i64 0, .int .i64 0]) (t := 62) ?hr ?_
            (case hr => first | (go_simp; done) | (go_simp; rfl))
            intro q18 w22 HM2
            clear HM1
            refine hK.out _ _ ⟨(HM2.cell (i := 8) rfl 2).1, (pw_cell_below HM2.below HcA.out), (pw_cell_below HM2.below HcX.out), (HM2.cell (i := 7) rfl 2).1, (pw_cell_below HM2.below HcB.out), (pw_cell_below HM2.below HcY.out)⟩ (fun hHeld => ?_)
            clear hK K
            refine norm_ (a' := ?_) ?_ ?_
            rotate_left
            · show Act.put _ (some 18) _ = _
              simp only [Act.put, List.setIfInBounds_toArray, List.set_cons_zero, List.set_cons_succ, i64_w, i32_w]
              rfl
            refine last_ (i := 18) (N := none) #[true, true, true, true, true, true, true, true, true, true, true, true, true, true, true, true, true, true, true] rfl rfl (by kernel_rfl) (by decide) (fun K hK => ?_)
            refine HM2.storeAllStep 0 rfl (by rfl) 62 (.tmp 18) (.tmp 85) rfl (us := #[.int .i64 (tx : Int), .int .i64 (ty : Int)]) rfl rfl (one2 rfl rfl) (by exact infoP2) rfl rfl ?_
            intro w23 HM3
            clear HM2
            refine hK.out _ _ ?_
            clear hK K
            refine done_ (by kernel_rfl) ?_
            by_cases hin : (tx, ty) ∈ Q
            · have HGET := Aside0.mk (kp_get hin)
              rw [if_pos hin] at hQ1
              have HQ1 := Aside0.mk hQ1
              clear hQ1 hin
              go_wp2_with (first
                | ((with_reducible refine gate_dst (N := 88) rfl ?_); (refine HM3.loadAll 0 rfl 62 (.tmp 18) rfl _ rfl Try.underlying62 rfl (by exact infoP2) rfl ?_))
                | ((with_reducible refine gate_dst (N := 89) rfl ?_); (refine HM3.mapHit 3 rfl (.tmp 87) (.tmp 88) 63 62 3 rfl keyA Try.underlying63 Try.underlying3 (zeroI _) B _ rfl rfl _ (kp (tx, ty)) rfl HKEY.out (ix Q (tx, ty)) HGET.out ?_))
                | ((with_reducible refine gate_dst (N := 106) rfl ?_); (refine HM3.append1 1 rfl (.tmp 103) (.tmp 105) 26 3 (.int .i64 0) 8 rfl Try.underlying26 infoI rfl (by decide) _ (I rl) ((ix Q (tx, ty) : Nat) : Int) rfl rfl rfl (by rw [I_len]; omega) ?_; intro v106 w24 HM4; clear HM3; rw [← I_snoc] at HM4)))
              go_roundg (g2 - 1)
              case measure => have := HKl.out; omega
              case rel => exact ⟨l + 1, by go_num, ⟨by have := HKl.out; omega⟩, by rw [HR1.out, HQ1.out]; exact HM4.drop 0⟩
            · have HKM := Aside0.mk (kp_mem HQT.out HZT.out hin)
              rw [if_neg hin] at hQ1
              have HIX := Aside0.mk (show ix (addAll P ((succs n d (x, y)).take (l + 1))) (tx, ty) = Q.length by rw [hQ1, ← ix_eq, List.idxOf_append, if_neg hin]; simp)
              have HQ1 := Aside0.mk hQ1
              clear hQ1 hin
              go_wp2_with (first
                | ((with_reducible refine gate_dst (N := 88) rfl ?_); (refine HM3.loadAll 0 rfl 62 (.tmp 18) rfl _ rfl Try.underlying62 rfl (by exact infoP2) rfl ?_))
                | ((with_reducible refine gate_dst (N := 89) rfl ?_); (refine HM3.mapMiss 3 rfl (.tmp 87) (.tmp 88) 63 62 3 rfl keyA Try.underlying63 Try.underlying3 (zeroI _) B _ rfl rfl _ (kp (tx, ty)) rfl HKEY.out HKM.out ?_))
                | ((with_reducible refine gate_dst (N := 97) rfl ?_); (refine HM3.loadAll 0 rfl 62 (.tmp 18) rfl _ rfl Try.underlying62 rfl (by exact infoP2) rfl ?_))
                | (at_mapUpdate; (refine HM3.mapPut 3 rfl rfl (.tmp 96) (.tmp 97) (.tmp 98) 63 62 3 rfl keyA Try.underlying63 Try.underlying3 B _ rfl rfl _ (kp (tx, ty)) rfl (by rw [List.length_map]; rfl) HKEY.out HKM.out (by rw [List.length_map]; omega) ?_; intro w24 HM4; clear HM3))
                | ((with_reducible refine gate_dst (N := 100) rfl ?_); (refine HM4.loadAll 0 rfl 62 (.tmp 18) rfl _ rfl Try.underlying62 rfl (by exact infoP2) rfl ?_))
                | ((with_reducible refine gate_dst (N := 102) rfl ?_); (refine HM4.appendD kP 2 rfl (.tmp 99) (.tmp 101) 64 62 (.agg #[.int .i64 0, .int .i64 0]) 16 rfl Try.underlying64 infoP rfl (by decide) (by decide) _ (PP Q) (pI (tx, ty)) #[.int .i64 (tx : Int), .int .i64 (ty : Int)] rfl rfl (pM _ _ _ (tx, ty)) rfl (by rw [PP_len]; omega) ?_; intro v102 w25 HM5; clear HM4; rw [← PP_snoc] at HM5))
                | ((with_reducible refine gate_dst (N := 106) rfl ?_); (refine HM5.append1 1 rfl (.tmp 103) (.tmp 105) 26 3 (.int .i64 0) 8 rfl Try.underlying26 infoI rfl (by decide) _ (I rl) ((Q.length : Nat) : Int) rfl rfl rfl (by rw [I_len]; omega) ?_; intro v106 w26 HM6; clear HM5; rw [← I_snoc] at HM6)))
              go_roundg (g2 - 1)
              case measure => have := HKl.out; omega
              case rel => exact ⟨l + 1, by go_num, ⟨by have := HKl.out; omega⟩, by rw [HR1.out, HIX.out, HQ1.out, List.map_append (f := kp)]; exact HM6.drop 0⟩
          · have hln : n = l := by have := HRN.out.1; omega
            subst hln
            rw [show (succs n d (x, y)).take n = succs n d (x, y) from List.take_of_length_le (by rw [succs_len]; exact Nat.le_refl _), ← HBS.out] at HM
            obtain ⟨rw', hrw⟩ : ∃ rw', rw' = (succs n d (x, y)).map (ix (F (i + 1))) := ⟨_, rfl⟩
            rw [← hrw] at HM
            have HROW2 := Aside0.mk (show rowsTo n d (F (i + 1)) (i + 1) = TT ++ [rw'] by rw [HROW.out, hrw])
            obtain ⟨A16, c16, e16, _, _⟩ := HM.rowSlice (i := 0) rfl
            subst e16
            obtain ⟨pe, hpe⟩ : ∃ pe, pe = l3.getD x false := ⟨_, rfl⟩
            obtain ⟨qe, hqe⟩ : ∃ qe, qe = m3.getD y false := ⟨_, rfl⟩
            have hcE := pw_cell_below HM.below HcE.out
            have hcF := pw_cell_below HM.below HcF.out
            rw [← hpe] at hcE
            rw [← hqe] at hcF
            have HTK2 := Aside0.mk (show ((F (i + 1)).take (i + 1)).map (eP how l3 m3) = EE ++ [opB how pe qe] by rw [HTK.out, hpe, hqe]; rfl)
            have hv1 : w20.cell? ⟨q3, 3, none⟩ = some (.slice (some ad3) l3.length c3) := (HM.cell (i := 7) rfl 3).1
            have hv2 : w20.cell? ⟨q4, 3, none⟩ = some (.slice (some bd3) m3.length d3) := (HM.cell (i := 6) rfl 3).1
            have hT6 : TT.length ≤ 6400 ∧ EE.length ≤ 6400 := HPL.out.2
            clear hrw hpe hqe HTK HcE HcF
            rcases HH.out with rfl | rfl | rfl <;> cases pe <;> cases qe
            all_goals
              go_wp2_with (first
                | ((with_reducible refine gate_dst (N := 125) rfl ?_); (refine HM.appendRow 3 0 rfl (.tmp 122) (.tmp 124) 22 26 (.slice none 0 0) 24 rfl Try.underlying22 infoL rfl (by decide) u11 (.slice A16 (I rw').length c16) (II TT) (I rw') rfl rfl rfl rfl (by rw [II_len]; omega) ?_; intro v125 w23 HM5; clear HM hv1 hv2 hcE hcF; rw [← II_snoc] at HM5))
                | ((with_reducible refine gate_dst (N := 133) rfl ?_); (refine HM5.append1 (enc := Value.bool) (h1 := fun _ => rfl) 3 rfl (.tmp 126) (.tmp 132) 23 4 (.bool false) 1 rfl Try.underlying23 infoB rfl (by decide) u12 EE _ rfl rfl rfl (by omega) ?_; intro v133 w24 HM6; clear HM5)))
              go_roundg (g1 - 1)
              case measure => have := HK.out; omega
              case rel => exact ⟨i + 1, by go_num, ⟨by have := HK.out; omega⟩, by rw [HROW2.out, HTK2.out]; exact (HM6.front 2 rfl).front 2 rfl⟩
      · have hO : bothO n T T' = P := by
          have h1 := bothO_final HWA.out HWB.out
          unfold bothO at h1 ⊢
          rw [← HD.out] at h1 ⊢
          rw [HP.out, HF.out]
          refine bfsI_final (succs n d) (0, 0) h1 ?_
          rw [show bfsI (succs n d) (0, 0) i = F i by rw [HF.out], ← HP.out]
          omega
        obtain ⟨TA, hTA⟩ : ∃ TA, TA = bothA n how T l3 T' m3 := ⟨_, rfl⟩
        have e1 : rowsTo n d P i = TA.1 := by
          rw [hTA, bothA_fst, hO, ← HD.out]
          unfold rowsTo
          rw [List.take_of_length_le (Nat.le_refl _), List.take_of_length_le (by omega)]
        have e2 : (P.take i).map (eP how l3 m3) = TA.2 := by
          rw [hTA, bothA_snd, hO, List.take_of_length_le (by omega)]
        rw [e1, e2] at HM
        have HWFA := Aside0.mk (show WF n TA.1 TA.2 by rw [hTA]; exact bothA_wf HWA.out HWB.out how)
        have HLOF := Aside0.mk (show lof n TA 0 = bothL how (lof n (T, l3) 0) (lof n (T', m3) 0) by rw [hTA]; exact bothA_lof HWA.out HWB.out how)
        have HTAL := Aside0.mk (show TA.1.length ≤ 6400 by rw [← e1]; unfold rowsTo; rw [List.length_map, List.length_take]; omega)
        obtain ⟨A11, c11, e11, _, hC11⟩ := HM.rowSlice (i := 2) rfl
        obtain ⟨A12, c12, e12, _, hC12⟩ := HM.rowSlice (i := 3) rfl
        subst e11 e12
        have HC11 := Aside0.mk hC11
        have HC12 := Aside0.mk hC12
        have hc0 : w10.cell? ⟨q3, 0, none⟩ = some (.int .i64 base) := (HM.cell (i := 6) rfl 0).1
        have hc1 : w10.cell? ⟨q3, 1, none⟩ = some (.int .i64 tracks) := (HM.cell (i := 6) rfl 1).1
        clear hC11 hC12 e1 e2 hTA hO hC10 hP
        by_cases h80 : ∃ m, Go.Proofs.Fil.Can n (lof n TA 0) m ∧ m.1.length ≤ 80
        · have H80 := Aside0.mk h80
          clear h80
          go_wp2_with (first
            | (go_at_call 22; (refine (shrink_calls n TA.1 TA.2 HWFA.out (by have := HTAL.out; omega) (by have := HN.out; omega) base tracks A11 c11 A12 c12 _ HC11.out HC12.out).mono ?_; rintro e w11 ⟨m, hm, hcase, hb⟩; have hc2 : m.1.length ≤ 80 ∧ ∃ v2 v3 : Value, e = .returned (.tuple #[.agg #[.int .i64 base, .int .i64 tracks, v2, v3], .bool true]) ∧ kL.R 26 w11 w10.heap.size (fun _ => True) v2 (II m.1) ∧ kB.R 4 w11 w10.heap.size (fun _ => True) v3 m.2 := (by rcases hcase with h | ⟨h, _⟩; (exact h); (obtain ⟨m', h1, h2⟩ := H80.out; rw [hm.unique h1] at h; omega)); obtain ⟨hm80, v2, v3, rfl, hq2, hq3⟩ := hc2; obtain ⟨A6, c6, rfl⟩ := Kd.R_slice hq2; obtain ⟨A7, c7, rfl⟩ := Kd.R_slice hq3; have HM2 := HM.rows2 hb hq2 hq3; have HMM := Aside0.mk hm; have HM80 := Aside0.mk hm80; clear HM hb hq2 hq3 hcase hm hm80 hc0 hc1))
            | ((with_reducible refine gate_dst (N := 22) rfl ?_); refine box_event ?hg (N := 22) ?hd (cs := #[.int .i64 0, .int .i64 0, .slice none 0 0, .slice none 0 0]) (t := 25) ?hr ?_; (case hd => rfl); (case hg => rfl); (case hr => first | (go_simp; done) | (go_simp; rfl)); intro q22 hg6 w12 hb6 hbel; have HM3 := HM2.blk_ hg6 hb6 hbel; clear HM2 hg6 hb6 hbel)
            | ((with_reducible refine gate_store (t := 25) (p := 22) rfl ?_); (refine HM3.storeAll 0 rfl rfl 25 (.tmp 22) _ rfl (us := #[.int .i64 base, .int .i64 tracks, .slice A6 (II m.1).length c6, .slice A7 m.2.length c7]) rfl rfl (one4 rfl rfl rfl rfl) (by exact infoA4) rfl rfl ?_; intro w13 HM4; clear HM3))
            | ((with_reducible refine gate_dst (N := 148) rfl ?_); (refine HM4.loadAll 0 rfl 25 (.tmp 22) rfl _ rfl Try.underlying25 rfl (by exact infoA4) rfl ?_))
            | ((with_reducible refine gate_store (t := 25) (p := 6) rfl ?_); (refine HM4.storeAll 6 rfl rfl 25 (.tmp 6) _ rfl (us := #[.int .i64 base, .int .i64 tracks, .slice A6 (II m.1).length c6, .slice A7 m.2.length c7]) rfl rfl (one4 rfl rfl rfl rfl) (by exact infoA4) rfl rfl ?_; intro w14 HM5; clear HM4)))
          refine bodyPost_ret (results_list (rs := [.cell 6 25, .tmp 7]) rfl (by simp) (.cell q6 25 _ (0, 0) _ rfl (HM5.blkAt (i := 6) rfl).1 Try.underlying25 rfl infoA4 (.tmp .nil))) (by rfl) ?_
          have hq := HM5.two_ (i := 1) rfl
          exact ⟨HM5.below, .inl ⟨n, T, T', m, HOK.out, (by rw [← HLOF.out]; exact HMM.out), HM80.out, .slice A6 (II m.1).length c6, .slice A7 m.2.length c7, rfl, hq.1, hq.2⟩⟩
        · have H80 := Aside0.mk h80
          clear h80
          go_wp2_with (first
            | (go_at_call 22; (refine (shrink_calls n TA.1 TA.2 HWFA.out (by have := HTAL.out; omega) (by have := HN.out; omega) base tracks A11 c11 A12 c12 _ HC11.out HC12.out).mono ?_; rintro e w11 ⟨m, hm, hcase, hb⟩; have hc2 : 80 < m.1.length ∧ e = .returned (.tuple #[.agg #[.int .i64 0, .int .i64 0, .slice none 0 0, .slice none 0 0], .bool false]) := (by rcases hcase with ⟨h, _⟩ | h; (exact absurd ⟨m, hm, h⟩ H80.out); (exact h)); obtain ⟨hm80, rfl⟩ := hc2; have HM2 := HM.grow hb; have HMM := Aside0.mk hm; have HM80 := Aside0.mk hm80; clear HM hb hcase hm hm80 hc0 hc1))
            | ((with_reducible refine gate_dst (N := 22) rfl ?_); refine box_event ?hg (N := 22) ?hd (cs := #[.int .i64 0, .int .i64 0, .slice none 0 0, .slice none 0 0]) (t := 25) ?hr ?_; (case hd => rfl); (case hg => rfl); (case hr => first | (go_simp; done) | (go_simp; rfl)); intro q22 hg6 w12 hb6 hbel; have HM3 := HM2.blk_ hg6 hb6 hbel; clear HM2 hg6 hb6 hbel)
            | ((with_reducible refine gate_store (t := 25) (p := 22) rfl ?_); (refine HM3.storeAll 0 rfl rfl 25 (.tmp 22) _ rfl (us := #[.int .i64 0, .int .i64 0, .slice none 0 0, .slice none 0 0]) rfl rfl (one4 rfl rfl rfl rfl) (by exact infoA4) rfl rfl ?_; intro w13 HM4; clear HM3))
            | ((with_reducible refine gate_store (t := 25) (p := 6) rfl ?_); (refine HM4.storeAll 5 rfl rfl 25 (.tmp 6) _ rfl (us := #[.int .i64 0, .int .i64 0, .slice none 0 0, .slice none 0 0]) rfl rfl (one4 rfl rfl rfl rfl) (by exact infoA4) rfl rfl ?_; intro w14 HM5; clear HM4)))
          refine bodyPost_ret (results_list (rs := [.cell 6 25, .tmp 7]) rfl (by simp) (.cell q6 25 _ (0, 0) _ rfl (HM5.blkAt (i := 5) rfl).1 Try.underlying25 rfl infoA4 (.tmp .nil))) (by rfl) ?_
          exact ⟨HM5.below, .inr ⟨3, .inr (.inr (.inl rfl)), rfl, .inr ⟨rfl, n, T, T', m, HOK.out, (by rw [← HLOF.out]; exact HMM.out), HM80.out⟩⟩⟩
  · have HNO := Aside0.mk hok
    clear hok
    go_enter Try.func16, Try.ntmps16
    go_wp2_with (first
      | ((with_reducible refine gate_dst (N := 3) rfl ?_); refine box_event ?hg (N := 3) ?hd (cs := #[.int .i64 base, .int .i64 tracks, .slice A2 l2.length c2, .slice A3 l3.length c3]) (t := 25) ?hr ?_; (case hd => rfl); (case hg => rfl); (case hr => first | (go_simp; done) | (go_simp; rfl)); intro q3 hg1 w1 hb1 hbel; have HM1 := HM.blk_ hg1 hb1 hbel; clear HM hg1 hb1 hbel)
      | ((with_reducible refine gate_dst (N := 4) rfl ?_); refine box_event ?hg (N := 4) ?hd (cs := #[.int .i64 base', .int .i64 tracks', .slice B2 m2.length d2, .slice B3 m3.length d3]) (t := 25) ?hr ?_; (case hd => rfl); (case hg => rfl); (case hr => first | (go_simp; done) | (go_simp; rfl)); intro q4 hg1 w2 hb1 hbel; have HM2 := HM1.blk_ hg1 hb1 hbel; clear HM1 hg1 hb1 hbel)
      | ((with_reducible refine gate_dst (N := 6) rfl ?_); refine box_event ?hg (N := 6) ?hd (cs := #[.int .i64 0, .int .i64 0, .slice none 0 0, .slice none 0 0]) (t := 25) ?hr ?_; (case hd => rfl); (case hg => rfl); (case hr => first | (go_simp; done) | (go_simp; rfl)); intro q6 hg1 w3 hb1 hbel; have HM3 := HM2.blk_ hg1 hb1 hbel; clear HM2 hg1 hb1 hbel)
      | ((with_reducible refine gate_dst (N := 32) rfl ?_); (refine HM3.loadAll 2 rfl 25 (.tmp 3) rfl _ rfl Try.underlying25 rfl (by exact infoA4) rfl ?_))
      | ((with_reducible refine gate_dst (N := 33) rfl ?_); (refine HM3.loadAll 1 rfl 25 (.tmp 4) rfl _ rfl Try.underlying25 rfl (by exact infoA4) rfl ?_))
      | (go_at_call 33; (refine (alike_calls base tracks A2 c2 l2 A3 c3 l3 base' tracks' B2 d2 m2 B3 d3 m3 _ (Kd.C_below HC2.out HM3.below) H2.out (Kd.C_below HC3.out HM3.below) H3.out (Kd.C_below HD2.out HM3.below) G2.out (Kd.C_below HD3.out HM3.below) G3.out).mono ?_; rintro e w4 ⟨hb, hcase⟩; have hcase2 : ∃ x, (x = 1 ∨ x = 2 ∨ x = 3 ∨ x = 4) ∧ e = .returned (errW (some x)) := (by rcases hcase with ⟨_, h⟩ | ⟨x, hx, h, _⟩; (exact absurd h HNO.out); (exact ⟨x, hx, h⟩)); obtain ⟨x, hx, rfl⟩ := hcase2; clear hcase; have HX := Aside0.mk hx; have HM4 := HM3.grow hb; clear HM3 hb hx; simp only [errW_some]))
      | ((with_reducible refine gate_store (t := 25) (p := 6) rfl ?_); (refine HM4.storeAll 0 rfl rfl 25 (.tmp 6) _ rfl (us := #[.int .i64 0, .int .i64 0, .slice none 0 0, .slice none 0 0]) rfl rfl (one4 rfl rfl rfl rfl) (by exact infoA4) rfl rfl ?_; intro w5 HM5; clear HM4)))
    refine bodyPost_ret (results_list (rs := [.cell 6 25, .tmp 7]) rfl (by simp) (.cell q6 25 _ (0, 0) _ rfl (HM5.blkAt (i := 0) rfl).1 Try.underlying25 rfl infoA4 (.tmp .nil))) (by rfl) ?_
    exact ⟨HM5.below, .inr ⟨x, HX.out, rfl, .inl HNO.out⟩⟩
end Go.Proofs.Ytlffephcbfdknaa.Wk
