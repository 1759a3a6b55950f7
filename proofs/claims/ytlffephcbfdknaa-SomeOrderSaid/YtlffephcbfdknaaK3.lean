/- Several texts in one: Maps that number what is met: steps of a walk, over any program. -/
import Derived.Test.YtlffephcbfdknaaKEv
/- Maps that number what is met: steps of a walk, over any program. -/
set_option linter.unusedVariables false
set_option linter.unusedSimpArgs false
namespace Go.Proofs.Sep
open Go.RowKit Go.Proofs.YtlffephcbfdknaaW.PrintWords Go.Proofs.YtlffephcbfdknaaW.PrintMore Go.Proofs.YtlffephcbfdknaaW.PrintLast

noncomputable instance : DecidableEq Lit := fun _ _ => Classical.propDecidable _
/-- the datum of a map whose keys have the numbers 0, 1, .. -/
def mapD (Ks : List Lit) : DataW Unit := Ks.zipIdx.foldl (fun m p => m.put p.1 (.lit (.int .i64 (p.2 : Int)))) (.map [])
theorem mapD_snoc (Ks : List Lit) (x : Lit) : mapD (Ks ++ [x]) = (mapD Ks).put x (.lit (.int .i64 (Ks.length : Int))) := by
  simp [mapD, List.zipIdx_append, List.foldl_append]
structure MapFacts (Ks : List Lit) : Prop where
  tidy : Maps.Tidy (mapD Ks)
  has : ∀ l, Maps.has (mapD Ks) l = decide (l ∈ Ks)
  size : Maps.size (mapD Ks) = Ks.length
  at_ : ∀ (l : Lit) (j : Nat) (z : DataW Unit), Ks[j]? = some l → (mapD Ks).atKey l z = .lit (.int .i64 (j : Int))
theorem mapFacts : ∀ (n : Nat) (Ks : List Lit), Ks.length = n → (∀ l ∈ Ks, WideAt.IsKeyLit l) → Ks.Nodup → MapFacts Ks := by
  intro n
  induction n with
  | zero =>
    intro Ks hl _ _
    obtain rfl := List.eq_nil_of_length_eq_zero hl
    exact ⟨Maps.tidy_empty, fun l => rfl, rfl, fun l j z h => by simp at h⟩
  | succ n ih =>
    intro Ks hl hk hn
    have hne : Ks ≠ [] := by rintro rfl; simp at hl
    obtain ⟨Ms, x, rfl⟩ : ∃ Ms x, Ks = Ms ++ [x] := ⟨_, _, (List.dropLast_concat_getLast hne).symm⟩
    have hlm : Ms.length = n := by simpa using hl
    have hx := hk x (by simp)
    rw [List.nodup_append] at hn
    have hxm : x ∉ Ms := fun hm => hn.2.2 x hm x (by simp) rfl
    have ih := ih Ms hlm (fun l h => hk l (by simp [h])) hn.1
    refine ⟨?_, ?_, ?_, ?_⟩
    · rw [mapD_snoc]; exact ih.tidy.put hx _
    · intro l
      rw [mapD_snoc]
      by_cases e : l = x
      · subst e; rw [Maps.has_put_same ih.tidy.isMap hx]; simp
      · rw [Maps.has_put_other e, ih.has]; simp [e]
    · rw [mapD_snoc, Maps.size_put ih.tidy, ih.has, decide_eq_false hxm, ih.size]; simp
    · intro l j z h
      rw [mapD_snoc]
      rcases Nat.lt_or_ge j Ms.length with h1 | h1
      · rw [List.getElem?_append_left h1] at h
        have e : l ≠ x := by rintro rfl; exact hxm (List.mem_of_getElem? h)
        rw [Maps.atKey_put_other e]
        exact ih.at_ l j z h
      · have hj : j = Ms.length := by
          have := (List.getElem?_eq_some_iff.1 h).1
          simp at this; omega
        subst hj
        have e : x = l := by simpa using h
        subst e
        rw [Maps.atKey_put_same ih.tidy.isMap hx]

/-- A map of numbers 0, 1, .. by keys. -/
def imap (P : Program) (k e : TypeId) (B : Nat) (Ks : List Lit) : Res where
  P := fun w b S => S B ∧ b ≤ B ∧ (∀ l ∈ Ks, WideAt.IsKeyLit l) ∧ Ks.Nodup ∧ w.ownsMap P k (plainElem P e) B Ks.length (mapD Ks)
  mono := fun h hr => ⟨h _ hr.1, hr.2⟩
  bound := fun hr => ⟨⟨hr.1, hr.2.1, hr.2.2.2.2.lt⟩, hr.2⟩
  move := fun h hr => ⟨hr.1, hr.2.1, hr.2.2.1, hr.2.2.2.1, by
    obtain ⟨es, clock, hb, r⟩ := hr.2.2.2.2
    exact ⟨es, clock, (h _ hr.1).trans hb, r⟩⟩

section
variable {P : Program} {ops : Array Oper} {rest : List Oper} {o : Oper} {a : Act} {Q : Exit → Act → World → Prop}
variable {b : Nat} {F : Nat → Prop} {w0 W : World} {L : List Res}
theorem Mem.mapMake (hM : Mem b F w0 W L) (hgd : o.guard = none) (t k e : TypeId) (ho : o.op = .makeMap t none)
    (h : ∀ B w1, Mem b F w0 w1 (imap P k e B [] :: L) → wpList P ops Q rest (a.put o.dst (.map (some B))) w1) : wpList P ops Q (o :: rest) a W := by
  refine wpList_plain hgd fun K hK => ?_
  unfold Oper.wp execOp
  simp only [ho, Option.map_none]
  have hrun := run_makeMap (P := P) t W
  simp only [Sem.run_bind, hrun, Result.andThen_ok, Sem.run_pure]
  have hbel : Below W.heap.size W (W.alloc (.map #[] 0)) := below_alloc (Below.refl _ _) _
  refine hK _ _ (h _ _ (hM.push_ hbel (r := imap P k e W.heap.size []) (S1 := fun q => q = W.heap.size) ⟨rfl, hM.size, fun _ h => absurd h (by simp), List.nodup_nil, World.ownsMap_made W P k _⟩ (fun q hq => by rw [hq]; exact Nat.le_refl _)))
/-- v, ok := m[x], the key being there. -/
theorem Mem.mapHit (hM : Mem b F w0 W L) (i : Nat) (hgd : o.guard = none) (m x : Operand) (t k e : TypeId) (ho : o.op = .lookup t m x true) (K : Maps.Keyed P k) (ht : P.underlying t = some (.map k e)) (he : P.underlying e = some (.int .i64)) (hz : (zeroValue e).run P W = .ok (.int .i64 0) W)
    (B : Nat) (Ks : List Lit) (hm : a.eval m = .map (some B)) (hi : L[i]? = some (imap P k e B Ks)) (key : Value) (kl : Lit) (hx : a.eval x = key) (hkey : keyOf P k key = some kl) (j : Nat) (hj : Ks[j]? = some kl)
    (h : wpList P ops Q rest (a.put o.dst (.tuple #[.int .i64 (j : Int), .bool true])) W) : wpList P ops Q (o :: rest) a W := by
  obtain ⟨S, hP, _⟩ := hM.get_ hi
  have hf := mapFacts _ Ks rfl hP.2.2.1 hP.2.2.2.1
  refine wpList_lookup_own_ok_int W hgd m x t ho k e .i64 K ht he hz B _ _ hm hP.2.2.2.2 key kl hx hkey ?_
  intro c hat _
  rw [hf.at_ kl j _ hj] at hat
  injection hat with hat
  injection hat with _ hat
  subst hat
  rw [hf.has, decide_eq_true (List.mem_of_getElem? hj)]
  exact h
/-- The key not being there. -/
theorem Mem.mapMiss (hM : Mem b F w0 W L) (i : Nat) (hgd : o.guard = none) (m x : Operand) (t k e : TypeId) (ho : o.op = .lookup t m x true) (K : Maps.Keyed P k) (ht : P.underlying t = some (.map k e)) (he : P.underlying e = some (.int .i64)) (hz : (zeroValue e).run P W = .ok (.int .i64 0) W)
    (B : Nat) (Ks : List Lit) (hm : a.eval m = .map (some B)) (hi : L[i]? = some (imap P k e B Ks)) (key : Value) (kl : Lit) (hx : a.eval x = key) (hkey : keyOf P k key = some kl) (hn : kl ∉ Ks)
    (h : wpList P ops Q rest (a.put o.dst (.tuple #[.int .i64 0, .bool false])) W) : wpList P ops Q (o :: rest) a W := by
  obtain ⟨S, hP, _⟩ := hM.get_ hi
  have hf := mapFacts _ Ks rfl hP.2.2.1 hP.2.2.2.1
  refine wpList_lookup_own_ok_int W hgd m x t ho k e .i64 K ht he hz B _ _ hm hP.2.2.2.2 key kl hx hkey ?_
  intro c hat _
  have hno : Maps.has (mapD Ks) kl = false := by rw [hf.has, decide_eq_false hn]
  rw [Maps.atKey_of_not_has hno] at hat
  injection hat with hat
  injection hat with _ hat
  subst hat
  rw [hno]
  exact h
theorem Mem.mapLen (hM : Mem b F w0 W L) (i : Nat) (hgd : o.guard = none) (m : Operand) (t k e : TypeId) (ho : o.op = .call { callee := .builtin .len, args := #[m], argTypes := #[t] }) (ht : P.underlying t = some (.map k e))
    (B : Nat) (Ks : List Lit) (hm : a.eval m = .map (some B)) (hi : L[i]? = some (imap P k e B Ks)) (h : wpList P ops Q rest (a.put o.dst (.int .i64 (Ks.length : Int))) W) : wpList P ops Q (o :: rest) a W := by
  obtain ⟨S, hP, _⟩ := hM.get_ hi
  have hf := mapFacts _ Ks rfl hP.2.2.1 hP.2.2.2.1
  refine wpList_len_own W hgd m t ho k e ht _ B _ _ hm hP.2.2.2.2 ?_
  rw [hf.size]
  exact h
/-- m[x] = len(m), a new key. -/
theorem Mem.mapPut (hM : Mem b F w0 W L) (i : Nat) (hgd : o.guard = none) (hN : o.dst = none) (m x v : Operand) (t k e : TypeId) (ho : o.op = .mapUpdate t m x v) (K : Maps.Keyed P k) (ht : P.underlying t = some (.map k e)) (he : P.underlying e = some (.int .i64))
    (B : Nat) (Ks : List Lit) (hm : a.eval m = .map (some B)) (hi : L[i]? = some (imap P k e B Ks)) (key : Value) (kl : Lit) (hx : a.eval x = key) (hv : a.eval v = .int .i64 (Ks.length : Int)) (hkey : keyOf P k key = some kl) (hn : kl ∉ Ks) (hl : Ks.length < 9223372036854775807)
    (h : ∀ w1, Mem b F w0 w1 (L.set i (imap P k e B (Ks ++ [kl]))) → wpList P ops Q rest a w1) : wpList P ops Q (o :: rest) a W := by
  obtain ⟨S, hP, _⟩ := hM.get_ hi
  have hwf : (Lit.int .i64 (Ks.length : Int)).wf = true := WalkArith.wf_i64 (by omega)
  refine wpList_mapUpdate_own W hgd m x v t ho k e K ht (plainElem P e) B _ _ hm hP.2.2.2.2 (by unfold maxLen; omega) key _ kl hx hv hkey _ [] (plainElem_int he hwf) ?_
  intro w1 hown hg
  rw [hN]
  refine h w1 (hM.set_ hi (fun S1 hP1 => ⟨fun q => q = B, fun q => q = B, (Chg.of_grown hg).mono (fun q hq => by injection hq), fun q hq => .inl (by rw [hq]; exact hP1.1), fun q hq => .inl (by rw [hq]; exact hP1.1), rfl, hP1.2.1, ?_, ?_, ?_⟩))
  · intro l hl
    rcases List.mem_append.1 hl with h1 | h1
    · exact hP1.2.2.1 l h1
    · rw [List.mem_singleton.1 h1]; exact K.key hkey
  · rw [List.nodup_append]
    exact ⟨hP1.2.2.2.1, by simp, fun p hp q hq => by rw [List.mem_singleton.1 hq]; rintro rfl; exact hn hp⟩
  · rw [mapD_snoc, List.length_append]; exact hown

/-- append(v, ys...), scalars. -/
theorem Mem.appendAll {α : Type} {enc : α → Value} {h1 : ∀ x, (enc x).oneCell' = true} (z0 : α) (hM : Mem b F w0 W L) (i : Nat) (hgd : o.guard = none) (s x : Operand) (t e : TypeId) (z : Value) (bytes : Nat)
    (ho : o.op = .call { callee := .builtin .append, args := #[s, x], argTypes := #[t, t] }) (ht : P.underlying t = some (.slice e)) (hinfo : (P.info? e).map (fun i => (i.zero, i.size, i.bytes)) = some (some z, 1, bytes)) (hz : z.cells.size = 1) (hb0 : 0 < bytes)
    (v : Value) (xs ys : List α) (A : Option Addr) (m c : Nat) (hs : a.eval s = v) (hx : a.eval x = .slice A m c) (hi : L[i]? = some (row (Kd.scalar enc h1) e v xs)) (HR : (Kd.scalar enc h1).C W A m ys) (hl : (xs.length + m) * bytes ≤ 140737488355328)
    (h : ∀ v1 w1, Mem b F w0 w1 (L.set i (row (Kd.scalar enc h1) e v1 (xs ++ ys))) → wpList P ops Q rest (a.put o.dst v1) w1) : wpList P ops Q (o :: rest) a W := by
  obtain ⟨S, hS, hP, hk⟩ := hM.star.at_ hi
  have hR0 : (Kd.scalar enc h1).R e W b S v xs := hP
  refine Kd.R_append_row enc z0 (w0 := W) b hgd s x t e z bytes ho ht hinfo hz hb0 v xs ys A m c (fun k => S k ∨ W.heap.size ≤ k) hs hx (fun _ h => .inr h) (Kd.R_mono hR0 (fun _ h => .inl h)) HR (Below.refl _ _) hM.size hl ?_
  intro v1 w1 hR hB hg hat
  have hc : Chg W w1 (fun k => some k = v.ownBlock) := Chg.of_grown hg
  have hT : ∀ k, some k = v.ownBlock → S k := fun k hk => hR0.1 k hk.symm
  exact h v1 w1 ⟨hk w1 _ (row (Kd.scalar enc h1) e v1 (xs ++ ys)) (fun k => S k ∨ W.heap.size ≤ k) hc (fun k hk => .inl (hT k hk)) (fun k hk => hk.imp id (fun h2 => ⟨.inr (Nat.le_trans hM.size0 h2), Nat.le_trans hM.size h2, h2⟩)) hR, hM.chg.trans hc (fun k hk => (hS k (hT k hk)).1), hM.base⟩
/-- v[:m] in v's place. -/
theorem Mem.takeRow {α : Type} {d : Kd α} {e n c m : Nat} {A : Option Addr} {xs : List α} (hM : Mem b F w0 W L) (i : Nat) (hi : L[i]? = some (row d e (.slice A n c) xs)) (hm : m ≤ xs.length) : Mem b F w0 W (L.set i (row d e (.slice A m c) (xs.take m))) :=
  hM.set_ hi (fun S hP => ⟨S, S, Chg.refl _ _, fun _ h => .inl h, fun _ h => .inl h, Kd.R_take hP hm⟩)
/-- string(v) of bytes. -/
theorem Mem.str (hgd : o.guard = none) (src dst e : TypeId) (x : Operand) (ho : o.op = .convert src dst x) (hs : P.underlying src = some (.slice e)) (he : P.underlying e = some (.int .u8)) (hd : P.underlying dst = some .string) {A : Option Addr} {n c : Nat} {xs : List Int}
    (hx : a.eval x = .slice A n c) (hC : (Kd.int .u8).C W A n xs) (h : wpList P ops Q rest (a.put o.dst (.string (strOfNums xs))) W) : wpList P ops Q (o :: rest) a W := by
  refine wpList_plain hgd fun K hK => ?_
  have hrun := Kd.C_string (P := P) hs he hd (c := c) hC
  unfold Oper.wp execOp
  simp only [ho, hx, Sem.run_bind, hrun, Result.andThen_ok, Sem.run_pure]
  exact hK _ _ h
end
section
variable {P : Program} {ops : Array Oper} {o : Oper} {a : Act} {Q : Exit → Act → World → Prop} {Kc : Act → World → Prop}
variable {b : Nat} {F : Nat → Prop} {w0 W : World} {L : List Res}
theorem Mem.litStep {α : Type} {enc : α → Value} {h1 : ∀ x, (enc x).oneCell' = true} (hM : Mem b F w0 W L) (e : Nat) (hw : Region.wanted o (yielded ops a.tmps) = true) {N : Tmp} (hd : o.dst = some N) (xs : List α)
    (hrun : (execOp a.eval o).run P W = .ok (.value (.slice (some ⟨W.heap.size, 0, none⟩) xs.length xs.length)) (W.alloc (.cells (xs.map enc).toArray e))) (hm : xs.length ≤ 9223372036854775807)
    (h : ∀ v1 w1, Mem b F w0 w1 (row (Kd.scalar enc h1) e v1 xs :: L) → Kc (a.put o.dst v1) w1) : if Region.wanted o (yielded ops a.tmps) = true then Oper.wp P o a W Kc Q else Kc (a.put o.dst undef) W := by
  refine Kd.R_lit_step (Kd.scalar enc h1) (w0 := W) b e hw hd (xs := xs) (inner := xs.map enc) (ok := fun k => W.heap.size ≤ k) (okp := fun _ => False) hrun ⟨by rw [List.length_map]; exact (Nat.mul_one _).symm, fun j p hj => ?_⟩ (fun _ h => h.elim) (Nat.le_refl _) (Below.refl _ _) hM.size hm ?_
  · show ((xs.map enc).drop (j * 1)).take 1 = [enc p]
    obtain ⟨hjl, hjp⟩ := List.getElem?_eq_some_iff.1 hj
    rw [Nat.mul_one, List.drop_eq_getElem_cons (by simpa using hjl)]
    simp [hjp]
  · intro v1 w1 hR hB hg hnew
    have hc : Chg W w1 (fun _ => False) := (Chg.of_grown hg).mono (fun k hk => by cases hk)
    exact h v1 w1 ⟨hM.star.push hc (show (Kd.scalar enc h1).R e w1 b (fun k => W.heap.size ≤ k) v1 _ from hR) (fun k hk => ⟨.inr (Nat.le_trans hM.size0 hk), hk⟩), hM.chg.trans hc (fun _ h => h.elim), hM.base⟩
theorem Mem.appendAllStep {α : Type} {enc : α → Value} {h1 : ∀ x, (enc x).oneCell' = true} (hM : Mem b F w0 W L) (i : Nat) (hw : Region.wanted o (yielded ops a.tmps) = true) (s x : Operand) (t e : TypeId) (z : Value) (bytes : Nat)
    (ho : o.op = .call { callee := .builtin .append, args := #[s, x], argTypes := #[t, t] }) (ht : P.underlying t = some (.slice e)) (hinfo : (P.info? e).map (fun i => (i.zero, i.size, i.bytes)) = some (some z, 1, bytes)) (hz : z.cells.size = 1) (hb0 : 0 < bytes)
    (v : Value) (xs ys : List α) (A : Option Addr) (m c : Nat) (hs : a.eval s = v) (hx : a.eval x = .slice A m c) (hi : L[i]? = some (row (Kd.scalar enc h1) e v xs)) (HR : (Kd.scalar enc h1).C W A m ys) (hl : (xs.length + m) * bytes ≤ 140737488355328)
    (h : ∀ v1 w1, Mem b F w0 w1 (L.set i (row (Kd.scalar enc h1) e v1 (xs ++ ys))) → Kc (a.put o.dst v1) w1) : if Region.wanted o (yielded ops a.tmps) = true then Oper.wp P o a W Kc Q else Kc (a.put o.dst undef) W := by
  obtain ⟨S, hS, hP, hk⟩ := hM.star.at_ hi
  have hR0 : (Kd.scalar enc h1).R e W b S v xs := hP
  refine Kd.R_append_rows_step (Kd.scalar enc h1) (Rr := fun x cs => cs = [enc x]) (w0 := W) b hw s x t e z bytes ho ht hinfo hz (by exact Nat.one_pos) hb0 v xs ys A m c (fun k => S k ∨ W.heap.size ≤ k) (fun _ => False) hs hx (Kd.R_mono hR0 (fun _ h => .inl h)) HR (fun _ _ h => h) (fun _ h => h.elim) (fun _ h => .inr h) (Below.refl _ _) hM.size hl ?_
  intro v1 w1 hR hB hg hat
  have hc : Chg W w1 (fun k => some k = v.ownBlock) := Chg.of_grown hg
  have hT : ∀ k, some k = v.ownBlock → S k := fun k hk => hR0.1 k hk.symm
  exact h v1 w1 ⟨hk w1 _ (row (Kd.scalar enc h1) e v1 (xs ++ ys)) (fun k => S k ∨ W.heap.size ≤ k) hc (fun k hk => .inl (hT k hk)) (fun k hk => hk.imp id (fun h2 => ⟨.inr (Nat.le_trans hM.size0 h2), Nat.le_trans hM.size h2, h2⟩)) hR, hM.chg.trans hc (fun k hk => (hS k (hT k hk)).1), hM.base⟩
theorem Mem.storeBlkStep (hM : Mem b F w0 W L) (i : Nat) (hN : o.dst = none) (hw : Region.wanted o (yielded ops a.tmps) = true) (t : TypeId) (p x : Operand) (ho : o.op = .store t p x) {g j : Nat} {cs : Array Value} {t0 : TypeId} (u : Value)
    (haddr : a.eval p = .pointer (some ⟨g, j, none⟩)) (hx : a.eval x = u) (hu : u.cells.toList = [u]) (h1 : u.oneCell' = true) (ht : (P.info? t).map (·.size) = some 1) (hi : L[i]? = some (blk g cs t0)) (hj : j < cs.size)
    (h : ∀ w1, Mem b F w0 w1 (L.set i (blk g (cs.setIfInBounds j u) t0)) → Kc a w1) : if Region.wanted o (yielded ops a.tmps) = true then Oper.wp P o a W Kc Q else Kc (a.put o.dst undef) W := by
  have hb := (hM.blkAt hi).1
  have hrun := run_store_run (P := P) (o := j) t u [u] hb hu (by simpa using ht) (by simp; omega) (fun q hq => by rw [List.mem_singleton.1 hq]; exact h1)
  rw [if_pos hw]
  unfold Oper.wp execOp
  simp only [ho, haddr, hx, Sem.run_bind, Sem.run_pure, Result.andThen_ok, hrun]
  show Kc (a.put o.dst undef) _
  rw [hN]
  exact h _ (hM.setBlk hi)
end
/-- bytes as whole numbers -/
def BI (l : List UInt8) : List Int := l.map fun b => (b.toNat : Int)
theorem BI_len (l : List UInt8) : (BI l).length = l.length := by simp [BI]
theorem BI_append (l m : List UInt8) : BI (l ++ m) = BI l ++ BI m := by simp [BI]
theorem str_BI (l : List UInt8) : (strOfNums (BI l)).data.toList = l := by
  simp [strOfNums, BI, Function.comp_def]
theorem str_BI_size (l : List UInt8) : (strOfNums (BI l)).size = l.length := by
  show (strOfNums (BI l)).data.size = _
  rw [← Array.length_toList, str_BI]
end Go.Proofs.Sep

/- More steps on what a call owns (Sep): structs stored and loaded whole, a store of one cell in a region of its own. -/
set_option linter.unusedVariables false
namespace Go.Proofs.Sep
open Go.RowKit Go.Proofs.YtlffephcbfdknaaW.PrintWords Go.Proofs.YtlffephcbfdknaaW.PrintMore Go.Proofs.YtlffephcbfdknaaW.PrintLast
section
variable {P : Program} {ops : Array Oper} {rest : List Oper} {o : Oper} {a : Act} {Q : Exit → Act → World → Prop}
variable {b : Nat} {F : Nat → Prop} {w0 W : World} {L : List Res}
/-- *p = T{..} -/
theorem Mem.storeAll (hM : Mem b F w0 W L) (i : Nat) (hN : o.dst = none) (hgd : o.guard = none) (t : TypeId) (p x : Operand) (ho : o.op = .store t p x) {g : Nat} {cs us : Array Value} {t0 : TypeId}
    (haddr : a.eval p = .pointer (some ⟨g, 0, none⟩)) (hx : a.eval x = .agg us) (h1 : ∀ q ∈ us.toList, q.oneCell' = true) (ht : (P.info? t).map (·.size) = some us.size) (hi : L[i]? = some (blk g cs t0)) (hs : us.size = cs.size)
    (h : ∀ w1, Mem b F w0 w1 (L.set i (blk g us t0)) → wpList P ops Q rest a w1) : wpList P ops Q (o :: rest) a W := by
  have hb := (hM.blkAt hi).1
  have hrun := run_store_run (P := P) (o := 0) t (.agg us) us.toList hb rfl (by simpa using ht) (by simp; omega) h1
  refine wpList_plain hgd fun K hK => ?_
  unfold Oper.wp execOp
  simp only [ho, haddr, hx, Sem.run_bind, Sem.run_pure, Result.andThen_ok, hrun]
  show K (a.put o.dst undef) _
  rw [hN]
  exact hK a _ (h _ (hM.setAll hi hs))
/-- *p, a struct -/
theorem Mem.loadAll (hM : Mem b F w0 W L) (i : Nat) (hgd : o.guard = none) (t : TypeId) (p : Operand) (ho : o.op = .load t p) {g : Nat} {cs : Array Value} {t0 : TypeId} (d : TypeDesc)
    (haddr : a.eval p = .pointer (some ⟨g, 0, none⟩)) (hu : P.underlying t = some d) (hd : (match d with | .struct _ | .array _ _ => true | _ => false) = true) (ht : (P.info? t).map (·.size) = some cs.size) (hi : L[i]? = some (blk g cs t0))
    (h : wpList P ops Q rest (a.put o.dst (.agg cs)) W) : wpList P ops Q (o :: rest) a W := by
  have hb := (hM.blkAt hi).1
  have hrun := run_loadVar_row (P := P) W g t0 t cs (0, 0) d hb hu hd ht
  refine wpList_plain hgd fun K hK => ?_
  unfold Oper.wp execOp
  simp only [ho, haddr, Instr.loadAt, Instr.sureAddr, Sem.run_bind, Sem.run_pure, Result.andThen_ok, hrun]
  exact hK _ _ h
end
end Go.Proofs.Sep
