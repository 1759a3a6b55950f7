/- Several texts in one: Two rows that may share blocks, and are only read (Sep). -/
import Derived.Test.YtlffephcbfdknaaKEv4
import Derived.WideKeyPair
/- Two rows that may share blocks, and are only read (Sep). -/
set_option linter.unusedVariables false
namespace Go.Proofs.Sep
open Go.RowKit Go.Proofs.YtlffephcbfdknaaW.PrintWords Go.Proofs.YtlffephcbfdknaaW.PrintMore Go.Proofs.YtlffephcbfdknaaW.PrintLast
def two (r s : Res) : Res where
  P := fun w b S => r.P w b S ∧ s.P w b S
  mono := fun h hp => ⟨r.mono h hp.1, s.mono h hp.2⟩
  bound := fun hp => ⟨r.bound hp.1, s.bound hp.2⟩
  move := fun h hp => ⟨r.move h hp.1, s.move h hp.2⟩
section
variable {b : Nat} {F : Nat → Prop} {w0 w w1 W : World} {L : List Res}
theorem Mem.rows2 {α β : Type} {d : Kd α} {d' : Kd β} {e e' : Nat} {v v' : Value} {xs : List α} {ys : List β} (h : Mem b F w0 w L) (hc : Below w.heap.size w w1) (hr : d.R e w1 w.heap.size (fun _ => True) v xs) (hs : d'.R e' w1 w.heap.size (fun _ => True) v' ys) : Mem b F w0 w1 (two (row d e v xs) (row d' e' v' ys) :: L) :=
  h.push_ hc (S1 := fun k => w.heap.size ≤ k) ⟨show d.R e w1 b _ v xs from Kd.R_lower (Kd.R_mono (Kd.R_bound hr) (fun k hk => hk.2.1)) h.size, show d'.R e' w1 b _ v' ys from Kd.R_lower (Kd.R_mono (Kd.R_bound hs) (fun k hk => hk.2.1)) h.size⟩ (fun _ hk => hk)
theorem Mem.two_ {α β : Type} {d : Kd α} {d' : Kd β} {i e e' : Nat} {v v' : Value} {xs : List α} {ys : List β} (h : Mem b F w0 w L) (hi : L[i]? = some (two (row d e v xs) (row d' e' v' ys))) : d.R e w b (fun _ => True) v xs ∧ d'.R e' w b (fun _ => True) v' ys := by
  obtain ⟨S, hP, _⟩ := h.get_ hi
  exact ⟨Kd.R_mono (show d.R e w b S v xs from hP.1) (fun _ _ => trivial), Kd.R_mono (show d'.R e' w b S v' ys from hP.2) (fun _ _ => trivial)⟩
end
end Go.Proofs.Sep

/- A map whose elements are slices of the call's own (Sep): the map tells the values, the rows are things beside it. -/
set_option linter.unusedVariables false
set_option linter.unusedSimpArgs false
namespace Go.Proofs.Sep
open Go.RowKit Go.Proofs.YtlffephcbfdknaaW.PrintWords Go.Proofs.YtlffephcbfdknaaW.PrintMore Go.Proofs.YtlffephcbfdknaaW.PrintLast
abbrev nilS : Value := .slice none 0 0
def vE (v : Value) : Option (DataW Value × List MemPlace) := some (.held v, [])
/-- A map of at most n entries, that tells f. -/
def vm (P : Program) (k : TypeId) (B n : Nat) (f : Lit → Value) : Res where
  P := fun w b S => S B ∧ b ≤ B ∧ ∃ D : DataW Value, w.ownsMap P k vE B n D ∧ ∀ l, WideAt.IsKeyLit l → D.atKey l (.held nilS) = .held (f l)
  mono := fun h hr => ⟨h _ hr.1, hr.2⟩
  bound := fun hr => ⟨⟨hr.1, hr.2.1, by obtain ⟨D, hD, _⟩ := hr.2.2; exact hD.lt⟩, hr.2⟩
  move := fun h hr => ⟨hr.1, hr.2.1, by
    obtain ⟨D, ⟨es, clock, hb, r⟩, hf⟩ := hr.2.2
    exact ⟨D, ⟨es, clock, (h _ hr.1).trans hb, r⟩, hf⟩⟩
/-- Rows, one beside the other. -/
def rows {α : Type} (d : Kd α) (e : Nat) (m : Nat) (f : Nat → Value) (g : Nat → List α) : List Res := (List.range m).map fun j => row d e (f j) (g j)
theorem rows_at {α : Type} {d : Kd α} {e m : Nat} {f : Nat → Value} {g : Nat → List α} {j : Nat} (h : j < m) : (rows d e m f g)[j]? = some (row d e (f j) (g j)) := by
  simp [rows, h]
theorem rows_set {α : Type} (d : Kd α) (e m : Nat) (f f' : Nat → Value) (g g' : Nat → List α) (j : Nat) (hf : ∀ i, i < m → i ≠ j → f' i = f i) (hg : ∀ i, i < m → i ≠ j → g' i = g i) : (rows d e m f g).set j (row d e (f' j) (g' j)) = rows d e m f' g' := by
  apply List.ext_getElem
  · simp [rows]
  · intro i h1 h2
    have hi : i < m := by simpa [rows] using h2
    simp only [rows, List.getElem_set, List.getElem_map, List.getElem_range]
    by_cases e1 : j = i
    · subst e1; rw [if_pos rfl]
    · rw [if_neg e1, hf i hi (fun h => e1 h.symm), hg i hi (fun h => e1 h.symm)]
section
variable {P : Program} {ops : Array Oper} {rest : List Oper} {o : Oper} {a : Act} {Q : Exit → Act → World → Prop} {Kc : Act → World → Prop}
variable {b : Nat} {F : Nat → Prop} {w0 w W : World} {L : List Res}
theorem Mem.nils {α : Type} (d : Kd α) (e : Nat) (h : Mem b F w0 w L) : ∀ m, Mem b F w0 w (rows d e m (fun _ => nilS) (fun _ => ([] : List α)) ++ L) := by
  intro m
  induction m generalizing L with
  | zero => exact h
  | succ m ih =>
    have h1 := ih (h.nil d e)
    have h2 : rows d e (m + 1) (fun _ => nilS) (fun _ => ([] : List α)) ++ L = rows d e m (fun _ => nilS) (fun _ => ([] : List α)) ++ (row d e nilS ([] : List α) :: L) := by
      simp [rows, List.range_succ]
    rw [h2]
    exact h1
theorem Mem.swap {L1 L2 : List Res} (h : Mem b F w0 w (L1 ++ L2)) : Mem b F w0 w (L2 ++ L1) := by
  obtain ⟨F1, hF1, h1, h2⟩ := h.star.split
  exact ⟨h2.append h1 (fun k hk => hk.1) (fun k hk => ⟨(hF1 k hk).1, fun h3 => h3.2 hk⟩), h.chg, h.base⟩
theorem Mem.vmMake (hM : Mem b F w0 W L) (hgd : o.guard = none) (t k : TypeId) (ho : o.op = .makeMap t none)
    (h : ∀ B w1, Mem b F w0 w1 (vm P k B 0 (fun _ => nilS) :: L) → wpList P ops Q rest (a.put o.dst (.map (some B))) w1) : wpList P ops Q (o :: rest) a W := by
  refine wpList_plain hgd fun K hK => ?_
  unfold Oper.wp execOp
  simp only [ho, Option.map_none]
  have hrun := run_makeMap (P := P) t W
  simp only [Sem.run_bind, hrun, Result.andThen_ok, Sem.run_pure]
  have hbel : Below W.heap.size W (W.alloc (.map #[] 0)) := below_alloc (Below.refl _ _) _
  refine hK _ _ (h _ _ (hM.push_ hbel (r := vm P k W.heap.size 0 (fun _ => nilS)) (S1 := fun q => q = W.heap.size) ⟨rfl, hM.size, _, World.ownsMap_made W P k _, fun l _ => rfl⟩ (fun q hq => by rw [hq]; exact Nat.le_refl _)))
/-- What a look-up answers. -/
theorem Mem.vmRun (hM : Mem b F w0 W L) {i : Nat} {t k e : TypeId} (K : Maps.Keyed P k) (ht : P.underlying t = some (.map k e)) (hz : (zeroValue e).run P W = .ok nilS W)
    {B n : Nat} {f : Lit → Value} (hi : L[i]? = some (vm P k B n f)) {key : Value} {kl : Lit} (hkey : keyOf P k key = some kl) : (Instr.lookup t (.map (some B)) key false).run P W = .ok (f kl) W := by
  obtain ⟨S, hP, _⟩ := hM.get_ hi
  obtain ⟨D, hD, hf⟩ := hP.2.2
  obtain ⟨v, ps, hrun, hv⟩ := hD.lookup K ht hz (zd := .held nilS) (zp := []) rfl hkey
  rw [hf kl (K.key hkey)] at hv
  unfold vE at hv
  simp only [Option.some.injEq, Prod.mk.injEq, DataW.held.injEq] at hv
  rw [hrun, hv.1]
theorem Mem.vmPut_ (hM : Mem b F w0 W L) {i : Nat} {t k e : TypeId} (K : Maps.Keyed P k) (ht : P.underlying t = some (.map k e)) {B n : Nat} {f : Lit → Value} (hn : n < maxLen) (hi : L[i]? = some (vm P k B n f)) {key : Value} {kl : Lit} (hkey : keyOf P k key = some kl) (v : Value) :
    ∃ w1, (Instr.mapUpdate t (.map (some B)) key v).run P W = .ok () w1 ∧ Mem b F w0 w1 (L.set i (vm P k B (n + 1) (fun l => if l = kl then v else f l))) := by
  obtain ⟨S, hP, _⟩ := hM.get_ hi
  obtain ⟨D, hD, hf⟩ := hP.2.2
  obtain ⟨w1, hrun, hown, hg⟩ := hD.update K ht hn (val := v) (d := .held v) (ps := []) hkey rfl
  refine ⟨w1, hrun, hM.set_ hi (fun S1 hP1 => ⟨fun q => q = B, fun q => q = B, (Chg.of_grown hg).mono (fun q hq => by injection hq), fun q hq => .inl (by rw [hq]; exact hP1.1), fun q hq => .inl (by rw [hq]; exact hP1.1), rfl, hP1.2.1, _, hown, fun l hl => ?_⟩)⟩
  by_cases e1 : l = kl
  · subst e1
    rw [Maps.atKey_put_same hD.isMap hl]; simp
  · rw [Maps.atKey_put_other e1, hf l hl]; simp [e1]
theorem Mem.vmPutStep (hM : Mem b F w0 W L) (i : Nat) (hw : Region.wanted o (yielded ops a.tmps) = true) (hN : o.dst = none) (m x v : Operand) (t k e : TypeId) (ho : o.op = .mapUpdate t m x v) (K : Maps.Keyed P k) (ht : P.underlying t = some (.map k e)) (B n : Nat) (f : Lit → Value) (hn : n < maxLen)
    (hm : a.eval m = .map (some B)) (hi : L[i]? = some (vm P k B n f)) (key : Value) (kl : Lit) (hx : a.eval x = key) (hkey : keyOf P k key = some kl) (u : Value) (hv : a.eval v = u)
    (h : ∀ w1, Mem b F w0 w1 (L.set i (vm P k B (n + 1) (fun l => if l = kl then u else f l))) → Kc a w1) : if Region.wanted o (yielded ops a.tmps) = true then Oper.wp P o a W Kc Q else Kc (a.put o.dst undef) W := by
  obtain ⟨w1, hrun, hM1⟩ := hM.vmPut_ K ht hn hi hkey u
  rw [if_pos hw]
  unfold Oper.wp execOp
  simp only [ho, hm, hx, hv, Sem.run_bind, Sem.run_pure, Result.andThen_ok, hrun]
  show Kc (a.put o.dst undef) _
  rw [hN]
  exact h _ hM1
end
end Go.Proofs.Sep

/- Steps in a region that draws its order (Sep): a variable laid in memory, a struct stored whole. -/
set_option linter.unusedVariables false
namespace Go.Proofs.Sep
open Go.RowKit Go.Proofs.YtlffephcbfdknaaW.PrintWords Go.Proofs.YtlffephcbfdknaaW.PrintMore Go.Proofs.YtlffephcbfdknaaW.PrintLast
section
variable {P : Program} {ops : Array Oper} {o : Oper} {a : Act} {Q : Exit → Act → World → Prop} {Kc : Act → World → Prop}
variable {b : Nat} {F : Nat → Prop} {w0 W : World} {L : List Res}
theorem Mem.boxStep (hM : Mem b F w0 W L) (hw : Region.wanted o (yielded ops a.tmps) = true) {N : Tmp} (_hd : o.dst = some N) {cs : Array Value} {t : TypeId}
    (hrun : (execOp a.eval o).run P W = .ok (.value (.pointer (some ⟨W.heap.size, 0, none⟩))) (W.alloc (.cells cs t (0, 0))))
    (h : ∀ g w1, Mem b F w0 w1 (blk g cs t :: L) → Kc (a.put o.dst (.pointer (some ⟨g, 0, none⟩))) w1) : if Region.wanted o (yielded ops a.tmps) = true then Oper.wp P o a W Kc Q else Kc (a.put o.dst undef) W := by
  rw [if_pos hw]
  unfold Oper.wp
  rw [hrun]
  exact h _ _ (hM.blk_ rfl (blk_new W _) (below_alloc (Below.refl _ _) _))
theorem Mem.storeAllStep (hM : Mem b F w0 W L) (i : Nat) (hN : o.dst = none) (hw : Region.wanted o (yielded ops a.tmps) = true) (t : TypeId) (p x : Operand) (ho : o.op = .store t p x) {g : Nat} {cs us : Array Value} {t0 : TypeId}
    (haddr : a.eval p = .pointer (some ⟨g, 0, none⟩)) (hx : a.eval x = .agg us) (h1 : ∀ q ∈ us.toList, q.oneCell' = true) (ht : (P.info? t).map (·.size) = some us.size) (hi : L[i]? = some (blk g cs t0)) (hs : us.size = cs.size)
    (h : ∀ w1, Mem b F w0 w1 (L.set i (blk g us t0)) → Kc a w1) : if Region.wanted o (yielded ops a.tmps) = true then Oper.wp P o a W Kc Q else Kc (a.put o.dst undef) W := by
  have hb := (hM.blkAt hi).1
  have hrun := run_store_run (P := P) (o := 0) t (.agg us) us.toList hb rfl (by simpa using ht) (by simp; omega) h1
  rw [if_pos hw]
  unfold Oper.wp execOp
  simp only [ho, haddr, hx, Sem.run_bind, Sem.run_pure, Result.andThen_ok, hrun]
  show Kc (a.put o.dst undef) _
  rw [hN]
  exact h _ (hM.setAll hi hs)
end
end Go.Proofs.Sep

/- A literal of two rows (Sep). -/
set_option linter.unusedVariables false
namespace Go.Proofs.Sep
open Go.RowKit Go.Proofs.YtlffephcbfdknaaW.PrintWords Go.Proofs.YtlffephcbfdknaaW.PrintMore Go.Proofs.YtlffephcbfdknaaW.PrintLast
section
variable {P : Program} {ops : Array Oper} {rest : List Oper} {o : Oper} {a : Act} {Q : Exit → Act → World → Prop}
variable {b : Nat} {F : Nat → Prop} {w0 W : World} {L : List Res}
theorem Mem.litRows2 {β : Type} {d : Kd β} {e' : Nat} {v1 v2 : Value} {p1 p2 : List β} (hM : Mem b F w0 W (row d e' v2 p2 :: row d e' v1 p1 :: L)) (e : Nat) (hgd : o.guard = none) {N : Tmp} (hd : o.dst = some N)
    (hrun : (execOp a.eval o).run P W = .ok (.value (.slice (some ⟨W.heap.size, 0, none⟩) 2 2)) (W.alloc (.cells #[v1, v2] e)))
    (h : ∀ v w1, Mem b F w0 w1 (row (Kd.slice e' d) e v [p1, p2] :: L) → wpList P ops Q rest (a.put o.dst v) w1) : wpList P ops Q (o :: rest) a W := by
  obtain ⟨S2, hS2, hP2, S1, hS1, hP1, hrest⟩ := hM.star
  have hR2 : d.R e' W b S2 v2 p2 := hP2
  have hR1 : d.R e' W b S1 v1 p1 := hP1
  refine Kd.R_lit (Kd.slice e' d) (w0 := W) b e hgd hd (xs := [p1, p2]) (inner := [v1, v2]) (ok := fun k => S1 k ∨ S2 k ∨ W.heap.size ≤ k) (okp := fun k => S1 k ∨ S2 k) hrun ⟨rfl, fun j p hj => ?_⟩ (fun k hk => hk.imp id .inl) (.inr (.inr (Nat.le_refl _))) (Below.refl _ _) hM.size (by simp) ?_
  · match j, hj with
    | 0, hj =>
      simp only [List.getElem?_cons_zero, Option.some.injEq] at hj
      subst hj
      exact ⟨v1, rfl, Kd.R_mono hR1 (fun k hk => .inl hk)⟩
    | 1, hj =>
      simp only [List.getElem?_cons_succ, List.getElem?_cons_zero, Option.some.injEq] at hj
      subst hj
      exact ⟨v2, rfl, Kd.R_mono hR2 (fun k hk => .inr hk)⟩
    | j + 2, hj => simp at hj
  · intro v w1 hR hB hg hnew
    have hc : Chg W w1 (fun _ => False) := (Chg.of_grown hg).mono (fun k hk => by cases hk)
    refine h v w1 ⟨⟨fun k => (S1 k ∨ S2 k ∨ W.heap.size ≤ k) ∧ b ≤ k ∧ k < w1.heap.size, fun k hk => ⟨?_, hk.2⟩, (row (Kd.slice e' d) e v [p1, p2]).bound hR, ?_⟩, hM.chg.trans hc (fun _ h => h.elim), hM.base⟩
    · rcases hk.1 with h1 | h1 | h1
      · exact (hS1 k h1).1.1
      · exact (hS2 k h1).1
      · exact .inr (Nat.le_trans hM.size0 h1)
    · refine (hrest.bnd.move (w1 := w1) hc.size (fun k _ hlt => hc.block k hlt (fun h => h))).mono (fun k hk => ⟨hk.1.1.1, fun h3 => ?_⟩)
      rcases h3.1 with h1 | h1 | h1
      · exact hk.1.2 h1
      · exact hk.1.1.2 h1
      · have := hk.2.2; omega
end
end Go.Proofs.Sep

/- Steps in a region that draws its order (Sep): one element of a row is written; a struct is loaded whole; four rows that are only read. -/
set_option linter.unusedVariables false
namespace Go.Proofs.Sep
open Go.RowKit Go.Proofs.YtlffephcbfdknaaW.PrintWords Go.Proofs.YtlffephcbfdknaaW.PrintMore Go.Proofs.YtlffephcbfdknaaW.PrintLast
section
variable {P : Program} {ops : Array Oper} {o : Oper} {a : Act} {Q : Exit → Act → World → Prop} {Kc : Act → World → Prop}
variable {b : Nat} {F : Nat → Prop} {w0 w w1 W : World} {L : List Res}
theorem Mem.store1Step {α : Type} {enc : α → Value} {h1 : ∀ x, (enc x).oneCell' = true} (hM : Mem b F w0 W L) (i : Nat) (hN : o.dst = none) (hw : Region.wanted o (yielded ops a.tmps) = true) (t : TypeId) (p x : Operand) (ho : o.op = .store t p x) (e : TypeId) {g n cap j : Nat} (xs : List α) (y : α)
    (haddr : a.eval p = .pointer (some ⟨g, j, none⟩)) (hx : a.eval x = enc y) (hu : (enc y).cells.toList = [enc y]) (ht : (P.info? t).map (·.size) = some 1) (hi : L[i]? = some (row (Kd.scalar enc h1) e (.slice (some ⟨g, 0, none⟩) n cap) xs)) (hj : j < xs.length)
    (h : ∀ w1, Mem b F w0 w1 (L.set i (row (Kd.scalar enc h1) e (.slice (some ⟨g, 0, none⟩) n cap) (xs.set j y))) → Kc a w1) : if Region.wanted o (yielded ops a.tmps) = true then Oper.wp P o a W Kc Q else Kc (a.put o.dst undef) W := by
  have ho1 := Kd.own_of_R (hM.rowAt hi)
  rcases ho1.2 with ⟨hv, _⟩ | ⟨g', cap', cur, hv, _, hb, hl, _, hs, _⟩
  · cases hv
  · injection hv with e1 e2 e3
    injection e1 with e1
    injection e1 with e1
    subst e1
    subst e3
    have hrun := run_store_run (P := P) (o := j) t (enc y) [enc y] hb hu (by simpa using ht) (by simp; omega) (fun q hq => by rw [List.mem_singleton.1 hq]; exact h1 _)
    rw [if_pos hw]
    unfold Oper.wp execOp
    simp only [ho, haddr, hx, Sem.run_bind, Sem.run_pure, Result.andThen_ok, hrun]
    show Kc (a.put o.dst undef) _
    rw [hN]
    have h2 := hM.setRow hi (j : Int) y
    rw [Int.toNat_natCast] at h2
    exact h _ h2
theorem Mem.loadAllStep (hM : Mem b F w0 W L) (i : Nat) (hw : Region.wanted o (yielded ops a.tmps) = true) (t : TypeId) (p : Operand) (ho : o.op = .load t p) {g : Nat} {cs : Array Value} {t0 : TypeId} (d : TypeDesc)
    (haddr : a.eval p = .pointer (some ⟨g, 0, none⟩)) (hu : P.underlying t = some d) (hd : (match d with | .struct _ | .array _ _ => true | _ => false) = true) (ht : (P.info? t).map (·.size) = some cs.size) (hi : L[i]? = some (blk g cs t0))
    (h : Kc (a.put o.dst (.agg cs)) W) : if Region.wanted o (yielded ops a.tmps) = true then Oper.wp P o a W Kc Q else Kc (a.put o.dst undef) W := by
  have hb := (hM.blkAt hi).1
  have hrun := run_loadVar_row (P := P) W g t0 t cs (0, 0) d hb hu hd ht
  rw [if_pos hw]
  unfold Oper.wp execOp
  simp only [ho, haddr, Instr.loadAt, Instr.sureAddr, Sem.run_bind, Sem.run_pure, Result.andThen_ok, hrun]
  exact h
theorem Mem.rows4 {α β γ δ : Type} {d1 : Kd α} {d2 : Kd β} {d3 : Kd γ} {d4 : Kd δ} {e1 e2 e3 e4 : Nat} {v1 v2 v3 v4 : Value} {x1 : List α} {x2 : List β} {x3 : List γ} {x4 : List δ} (h : Mem b F w0 w L) (hc : Below w.heap.size w w1)
    (h1 : d1.R e1 w1 w.heap.size (fun _ => True) v1 x1) (h2 : d2.R e2 w1 w.heap.size (fun _ => True) v2 x2) (h3 : d3.R e3 w1 w.heap.size (fun _ => True) v3 x3) (h4 : d4.R e4 w1 w.heap.size (fun _ => True) v4 x4) :
    Mem b F w0 w1 (two (two (row d1 e1 v1 x1) (row d2 e2 v2 x2)) (two (row d3 e3 v3 x3) (row d4 e4 v4 x4)) :: L) :=
  h.push_ hc (S1 := fun k => w.heap.size ≤ k) ⟨⟨show d1.R e1 w1 b _ v1 x1 from Kd.R_lower (Kd.R_mono (Kd.R_bound h1) (fun k hk => hk.2.1)) h.size, show d2.R e2 w1 b _ v2 x2 from Kd.R_lower (Kd.R_mono (Kd.R_bound h2) (fun k hk => hk.2.1)) h.size⟩, show d3.R e3 w1 b _ v3 x3 from Kd.R_lower (Kd.R_mono (Kd.R_bound h3) (fun k hk => hk.2.1)) h.size, show d4.R e4 w1 b _ v4 x4 from Kd.R_lower (Kd.R_mono (Kd.R_bound h4) (fun k hk => hk.2.1)) h.size⟩ (fun _ hk => hk)
theorem Mem.four_ {α β γ δ : Type} {d1 : Kd α} {d2 : Kd β} {d3 : Kd γ} {d4 : Kd δ} {i e1 e2 e3 e4 : Nat} {v1 v2 v3 v4 : Value} {x1 : List α} {x2 : List β} {x3 : List γ} {x4 : List δ} (h : Mem b F w0 w L) (hi : L[i]? = some (two (two (row d1 e1 v1 x1) (row d2 e2 v2 x2)) (two (row d3 e3 v3 x3) (row d4 e4 v4 x4)))) :
    (d1.R e1 w b (fun _ => True) v1 x1 ∧ d2.R e2 w b (fun _ => True) v2 x2) ∧ d3.R e3 w b (fun _ => True) v3 x3 ∧ d4.R e4 w b (fun _ => True) v4 x4 := by
  obtain ⟨S, hP, _⟩ := h.get_ hi
  exact ⟨⟨Kd.R_mono (show d1.R e1 w b S v1 x1 from hP.1.1) (fun _ _ => trivial), Kd.R_mono (show d2.R e2 w b S v2 x2 from hP.1.2) (fun _ _ => trivial)⟩, Kd.R_mono (show d3.R e3 w b S v3 x3 from hP.2.1) (fun _ _ => trivial), Kd.R_mono (show d4.R e4 w b S v4 x4 from hP.2.2) (fun _ _ => trivial)⟩
end
end Go.Proofs.Sep
