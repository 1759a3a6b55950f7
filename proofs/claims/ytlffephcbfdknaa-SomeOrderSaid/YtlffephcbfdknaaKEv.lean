/- What one operation does to what a call owns (Sep), as steps of a walk: over any program. -/
import Derived.Test.YtlffephcbfdknaaKSep
import Derived.Test.YtlffephcbfdknaaWLast
set_option linter.unusedVariables false
namespace Go.Proofs.Sep
open Go.RowKit Go.Proofs.YtlffephcbfdknaaW.PrintWords Go.Proofs.YtlffephcbfdknaaW.PrintMore Go.Proofs.YtlffephcbfdknaaW.PrintLast

section
variable {P : Program} {ops : Array Oper} {rest : List Oper} {o : Oper} {a : Act} {Q : Exit → Act → World → Prop}
variable {b : Nat} {F : Nat → Prop} {w0 W : World} {L : List Res}

/-- A call of a function value that is known. -/
theorem goesV_ {w : World} (N : Option Tmp) (hd : o.dst = N) (hg : o.guard = none) {f : FuncId} {fn : Func} {x : Operand} {asx : Array Operand} {ts : Array TypeId} {cap : Array Value} (hf : P.funcs[f]? = some fn) (hname : (fn.name == "runtime.NumGoroutine") = false) (hb : fn.body.isSome = true)
    (hop : o.op = .call { callee := .value x, args := asx, argTypes := ts }) (hx : a.eval x = .func (.func f) #[] cap) (args : Array Value) (hargs : asx.map a.eval ++ cap = args)
    (h : Calls P f args w fun e w' => ∃ v, e = .returned v ∧ wpList P ops Q rest (a.put N v) w') : wpList P ops Q (o :: rest) a w := by
  refine wpList_plain hg fun K hK => ?_
  have he := enters_ hf hname hb args w
  have hrun : (execOp a.eval o).run P w = .ok (.enter f args) w := by
    unfold execOp
    simp [hop, resolve, Deferred.ofValue, invoke, hx, hargs, he]
  unfold Oper.wp
  rw [hrun, Oper.upon_enter]
  refine h.mono fun e w'' hh => ?_
  obtain ⟨v, rfl, hk⟩ := hh
  subst hd
  exact hK _ _ hk

/-- append(v, x) onto a row of scalars. -/
theorem Mem.append1 {α : Type} {enc : α → Value} {h1 : ∀ x, (enc x).oneCell' = true} (hM : Mem b F w0 W L) (i : Nat) (hgd : o.guard = none) (s x : Operand) (t e : TypeId) (z : Value) (bytes : Nat)
    (ho : o.op = .call { callee := .builtin .append, args := #[s, x], argTypes := #[t, t] }) (ht : P.underlying t = some (.slice e)) (hinfo : (P.info? e).map (fun i => (i.zero, i.size, i.bytes)) = some (some z, 1, bytes)) (hz : z.cells.size = 1) (hb0 : 0 < bytes)
    (v : Value) (xs : List α) (p : α) (hs : a.eval s = v) (hx : a.eval x = .slice (some ⟨W.heap.size, 0, none⟩) 1 1) (hi : L[i]? = some (row (Kd.scalar enc h1) e v xs)) (hl : (xs.length + 1) * bytes ≤ 140737488355328)
    (h : ∀ v1 w1, Mem b F w0 w1 (L.set i (row (Kd.scalar enc h1) e v1 (xs ++ [p]))) → wpList P ops Q rest (a.put o.dst v1) w1) :
    wpList P ops Q (o :: rest) a (W.alloc (.cells #[enc p] e)) := by
  obtain ⟨S, hS, hP, hk⟩ := hM.star.at_ hi
  have hP' : (Kd.scalar enc h1).R e W b S v xs := hP
  refine Kd.R_append (Kd.scalar enc h1) (w0 := W) b hgd s x t e z bytes ho ht hinfo hz (by exact Nat.one_pos) hb0 v xs p [enc p] (fun k => S k ∨ W.heap.size ≤ k) (fun _ => False) hs hx rfl (fun _ h => h.elim) (fun _ h => .inr h) (Kd.R_mono hP' (fun _ h => .inl h)) (Below.refl _ _) hM.size hl ?_
  intro v1 w1 hR hB hg hat
  have hc : Chg W w1 (fun k => some k = v.ownBlock) := Chg.of_grown hg
  have hT : ∀ k, some k = v.ownBlock → S k := fun k hk => hP'.1 k hk.symm
  refine h v1 w1 ⟨hk w1 _ (row (Kd.scalar enc h1) e v1 (xs ++ [p])) (fun k => S k ∨ W.heap.size ≤ k) hc (fun k hk => .inl (hT k hk)) (fun k hk => hk.imp id (fun h2 => ⟨.inr (Nat.le_trans hM.size0 h2), Nat.le_trans hM.size h2, h2⟩)) hR, hM.chg.trans hc (fun k hk => (hS k (hT k hk)).1), hM.base⟩
/-- append(v, r) of a row of the call's own onto a row of rows: the row becomes a part of it. -/
theorem Mem.appendRow {β : Type} {d : Kd β} {e' : Nat} (hM : Mem b F w0 W L) (i j : Nat) (hgd : o.guard = none) (s x : Operand) (t e : TypeId) (z : Value) (bytes : Nat)
    (ho : o.op = .call { callee := .builtin .append, args := #[s, x], argTypes := #[t, t] }) (ht : P.underlying t = some (.slice e)) (hinfo : (P.info? e).map (fun i => (i.zero, i.size, i.bytes)) = some (some z, 1, bytes)) (hz : z.cells.size = 1) (hb0 : 0 < bytes)
    (v u : Value) (xs : List (List β)) (p : List β) (hs : a.eval s = v) (hx : a.eval x = .slice (some ⟨W.heap.size, 0, none⟩) 1 1) (hi : L[i]? = some (row (Kd.slice e' d) e v xs)) (hj : (L.eraseIdx i)[j]? = some (row d e' u p)) (hl : (xs.length + 1) * bytes ≤ 140737488355328)
    (h : ∀ v1 w1, Mem b F w0 w1 (row (Kd.slice e' d) e v1 (xs ++ [p]) :: (L.eraseIdx i).eraseIdx j) → wpList P ops Q rest (a.put o.dst v1) w1) :
    wpList P ops Q (o :: rest) a (W.alloc (.cells #[u] e)) := by
  obtain ⟨S, S', hS, hS', hdis, hP, hP', hk⟩ := hM.star.at2 hi hj
  have hR0 : (Kd.slice e' d).R e W b S v xs := hP
  have hR1 : d.R e' W b S' u p := hP'
  have hv : ∀ k, v.ownBlock = some k → S k := hR0.1
  refine Kd.R_append (Kd.slice e' d) (w0 := W) b hgd s x t e z bytes ho ht hinfo hz (by exact Nat.one_pos) hb0 v xs p [u] (fun k => S k ∨ S' k ∨ W.heap.size ≤ k) S' hs hx ⟨u, rfl, hR1⟩ (fun k hk => ⟨.inr (.inl hk), fun he => hdis k (hv k he.symm) hk⟩) (fun _ h => .inr (.inr h)) (Kd.R_mono hR0 (fun _ h => .inl h)) (Below.refl _ _) hM.size hl ?_
  intro v1 w1 hR hB hg hat
  have hc : Chg W w1 (fun k => some k = v.ownBlock) := Chg.of_grown hg
  refine h v1 w1 ⟨hk w1 _ (row (Kd.slice e' d) e v1 (xs ++ [p])) (fun k => S k ∨ S' k ∨ W.heap.size ≤ k) hc (fun k hk => .inl (hv k hk.symm)) (fun k hk => hk.imp id (fun h1 => h1.imp id (fun h2 => ⟨.inr (Nat.le_trans hM.size0 h2), Nat.le_trans hM.size h2, h2⟩))) hR, hM.chg.trans hc (fun k hk => (hS k (hv k hk.symm)).1), hM.base⟩
/-- make([]T, n). -/
theorem Mem.make {α : Type} (d : Kd α) (hM : Mem b F w0 W L) (e : Nat) (hgd : o.guard = none) {N : Tmp} (hd : o.dst = some N) (t : TypeId) (x y : Operand) (ho : o.op = .makeSlice t x y) (n : Int) (hx : a.eval x = .int .i64 n) (hy : a.eval y = .int .i64 n)
    (ht : P.underlying t = some (.slice e)) (z : Value) (bytes : Nat) (hinfo : (P.info? e).map (fun i => (i.zero, i.size, i.bytes)) = some (some z, d.sz, bytes)) (hz : z.cells.size = d.sz) (hs0 : 0 < d.sz) (hb0 : 0 < bytes)
    (z0 : α) (hzero : d.M W b (fun _ => False) z0 z.cells.toList) (h0 : 0 ≤ n) (hl : n.toNat * bytes ≤ 281474976710656)
    (h : ∀ v1 w1, Mem b F w0 w1 (row d e v1 (List.replicate n.toNat z0) :: L) → wpList P ops Q rest (a.put o.dst v1) w1) : wpList P ops Q (o :: rest) a W := by
  refine Kd.R_make d (w0 := W) b e hgd hd t x y ho n hx hy ht z bytes hinfo hz hs0 hb0 z0 (ok := fun k => W.heap.size ≤ k) (okp := fun _ => False) hzero (fun _ h => h.elim) (Nat.le_refl _) h0 hl (Below.refl _ _) hM.size ?_
  intro v1 w1 hR hB hg hnew
  have hc : Chg W w1 (fun _ => False) := (Chg.of_grown hg).mono (fun k hk => by cases hk)
  exact h v1 w1 ⟨hM.star.push hc (show d.R e w1 b (fun k => W.heap.size ≤ k) v1 _ from hR) (fun k hk => ⟨.inr (Nat.le_trans hM.size0 hk), hk⟩), hM.chg.trans hc (fun _ h => h.elim), hM.base⟩
/-- A literal '[]T{..}' of scalars. -/
theorem Mem.lit {α : Type} {enc : α → Value} {h1 : ∀ x, (enc x).oneCell' = true} (hM : Mem b F w0 W L) (e : Nat) (hgd : o.guard = none) {N : Tmp} (hd : o.dst = some N) (xs : List α)
    (hrun : (execOp a.eval o).run P W = .ok (.value (.slice (some ⟨W.heap.size, 0, none⟩) xs.length xs.length)) (W.alloc (.cells (xs.map enc).toArray e))) (hm : xs.length ≤ 9223372036854775807)
    (h : ∀ v1 w1, Mem b F w0 w1 (row (Kd.scalar enc h1) e v1 xs :: L) → wpList P ops Q rest (a.put o.dst v1) w1) : wpList P ops Q (o :: rest) a W := by
  refine Kd.R_lit (Kd.scalar enc h1) (w0 := W) b e hgd hd (xs := xs) (inner := xs.map enc) (ok := fun k => W.heap.size ≤ k) (okp := fun _ => False) hrun ⟨by rw [List.length_map]; exact (Nat.mul_one _).symm, fun j p hj => ?_⟩ (fun _ h => h.elim) (Nat.le_refl _) (Below.refl _ _) hM.size hm ?_
  · show ((xs.map enc).drop (j * 1)).take 1 = [enc p]
    obtain ⟨hjl, hjp⟩ := List.getElem?_eq_some_iff.1 hj
    rw [Nat.mul_one, List.drop_eq_getElem_cons (by simpa using hjl)]
    simp [hjp]
  · intro v1 w1 hR hB hg hnew
    have hc : Chg W w1 (fun _ => False) := (Chg.of_grown hg).mono (fun k hk => by cases hk)
    exact h v1 w1 ⟨hM.star.push hc (show (Kd.scalar enc h1).R e w1 b (fun k => W.heap.size ≤ k) v1 _ from hR) (fun k hk => ⟨.inr (Nat.le_trans hM.size0 hk), hk⟩), hM.chg.trans hc (fun _ h => h.elim), hM.base⟩
/-- A nil row. -/
theorem Mem.nil {α : Type} (d : Kd α) (e : Nat) (hM : Mem b F w0 W L) : Mem b F w0 W (row d e (.slice none 0 0) ([] : List α) :: L) :=
  hM.push_ (Below.refl _ _) (S1 := fun _ => False) (show d.R e W b _ _ _ from Kd.R_nil d e W b _) (fun _ h => h.elim)

/-- The cells of a row of scalars. -/
theorem Mem.rowCell {α : Type} {enc : α → Value} {h1 : ∀ x, (enc x).oneCell' = true} {i e g n cap : Nat} {xs : List α} (d : α) (hM : Mem b F w0 W L) (hi : L[i]? = some (row (Kd.scalar enc h1) e (.slice (some ⟨g, 0, none⟩) n cap) xs)) {j : Nat} (hj : j < xs.length) :
    W.cell? ⟨g, j, none⟩ = some (enc (xs.getD j d)) ∧ W.frozen? ⟨g, j, none⟩ = false := by
  have hr := hM.rowAt hi
  have hn := (Kd.R_reads' hr).1
  have h := Kd.R_celln d hr (j : Int) (by omega) (by omega)
  simpa [rdOf] using h
/-- The shape of a row that isn't empty. -/
theorem Mem.rowForm {α : Type} {d : Kd α} {i e : Nat} {v : Value} {xs : List α} (hM : Mem b F w0 W L) (hi : L[i]? = some (row d e v xs)) (hp : 0 < xs.length) : ∃ g cap, v = .slice (some ⟨g, 0, none⟩) xs.length cap ∧ xs.length ≤ cap := by
  obtain ⟨g, cap, rfl, _⟩ := Kd.R_form (hM.rowAt hi) hp
  exact ⟨g, cap, rfl, (Kd.R_reads' (hM.rowAt hi)).2.1⟩
theorem Mem.rowSlice {α : Type} {d : Kd α} {i e : Nat} {v : Value} {xs : List α} (hM : Mem b F w0 W L) (hi : L[i]? = some (row d e v xs)) : ∃ A cap, v = .slice A xs.length cap ∧ xs.length ≤ cap ∧ d.C W A xs.length xs := by
  obtain ⟨A, cap, rfl⟩ := Kd.R_slice (hM.rowAt hi)
  exact ⟨A, cap, rfl, (Kd.R_reads' (hM.rowAt hi)).2.1, (Kd.R_reads' (hM.rowAt hi)).2.2⟩
/-- xs[j] = x. -/
theorem Mem.store1 {α : Type} {enc : α → Value} {h1 : ∀ x, (enc x).oneCell' = true} (hM : Mem b F w0 W L) (i : Nat) (hN : o.dst = none) (hgd : o.guard = none) (t : TypeId) (p x : Operand) (ho : o.op = .store t p x) (e : TypeId) {g n cap j : Nat} (xs : List α) (y : α)
    (haddr : a.eval p = .pointer (some ⟨g, j, none⟩)) (hx : a.eval x = enc y) (hu : (enc y).cells.toList = [enc y]) (ht : (P.info? t).map (·.size) = some 1) (hi : L[i]? = some (row (Kd.scalar enc h1) e (.slice (some ⟨g, 0, none⟩) n cap) xs)) (hj : j < xs.length)
    (h : ∀ w1, Mem b F w0 w1 (L.set i (row (Kd.scalar enc h1) e (.slice (some ⟨g, 0, none⟩) n cap) (xs.set j y))) → wpList P ops Q rest a w1) : wpList P ops Q (o :: rest) a W := by
  obtain ⟨S, hS, hP, hk⟩ := hM.star.at_ hi
  have hR : (Kd.scalar enc h1).R e W b S (.slice (some ⟨g, 0, none⟩) n cap) xs := hP
  have hn := (Kd.R_reads' hR).1
  have hgS : S g := hR.1 g (by simp [Value.ownBlock])
  have hc := Kd.R_celln (xs.getD j y) hR (j : Int) (by omega) (by omega)
  refine Kd.R_store (Kd.scalar enc h1) (w0 := W) b hN hgd t p x ho e (j : Int) 0 xs y (enc y) [enc y] [enc (rdOf (xs.getD j y) xs (j : Int))] S (fun _ => False) haddr (by show j = (j : Int).toNat * 1 + 0; omega) hx hu (by simpa using ht) (fun q hq => by rw [List.mem_singleton.1 hq]; exact h1 _) hR (by omega) (by omega) rfl (fun q u hq => ?_) (by simp [Kd.scalar]) ?_ (fun _ h => h.elim) (Below.refl _ _) ?_
  · cases q with
    | zero =>
      simp only [List.getElem?_cons_zero, Option.some.injEq] at hq
      subst hq
      have h2 := hc.1
      show W.cell? ⟨g, (j : Int).toNat * 1 + 0, none⟩ = _
      rw [show (j : Int).toNat * 1 + 0 = (j : Int).toNat by omega]
      exact h2
    | succ q => simp at hq
  · show [enc (rdOf (xs.getD j y) xs (j : Int))].take 0 ++ [enc y] ++ [enc (rdOf (xs.getD j y) xs (j : Int))].drop (0 + 1) = [enc y]
    rfl
  · intro w1 hR1 hB hg
    rw [Int.toNat_natCast] at hR1
    have hc1 : Chg W w1 (fun k => k = g) := (Chg.of_grown hg).mono (fun k hk => by injection hk)
    exact h w1 ⟨hk w1 _ (row (Kd.scalar enc h1) e (.slice (some ⟨g, 0, none⟩) n cap) (xs.set j y)) S hc1 (fun k hk => .inl (by rw [hk]; exact hgS)) (fun k hk => .inl hk) hR1, hM.chg.trans hc1 (fun k hk => by rw [hk]; exact (hS g hgS).1), hM.base⟩
/-- A cell of a variable's block is written. -/
theorem Mem.storeBlk (hM : Mem b F w0 W L) (i : Nat) (hN : o.dst = none) (hgd : o.guard = none) (t : TypeId) (p x : Operand) (ho : o.op = .store t p x) {g j : Nat} {cs : Array Value} {t0 : TypeId} (u : Value)
    (haddr : a.eval p = .pointer (some ⟨g, j, none⟩)) (hx : a.eval x = u) (hu : u.cells.toList = [u]) (h1 : u.oneCell' = true) (ht : (P.info? t).map (·.size) = some 1) (hi : L[i]? = some (blk g cs t0)) (hj : j < cs.size)
    (h : ∀ w1, Mem b F w0 w1 (L.set i (blk g (cs.setIfInBounds j u) t0)) → wpList P ops Q rest a w1) : wpList P ops Q (o :: rest) a W := by
  have hb := (hM.blkAt hi).1
  have hrun := run_store_run (P := P) (o := j) t u [u] hb hu (by simpa using ht) (by simp; omega) (fun q hq => by rw [List.mem_singleton.1 hq]; exact h1)
  refine wpList_plain hgd fun K hK => ?_
  unfold Oper.wp execOp
  simp only [ho, haddr, hx, Sem.run_bind, Sem.run_pure, Result.andThen_ok, hrun]
  show K (a.put o.dst undef) _
  rw [hN]
  exact hK a _ (h _ (hM.setBlk hi))
/-- The whole of a variable's block is written. -/
theorem Mem.setAll {i g : Nat} {cs us : Array Value} {t0 : TypeId} (hM : Mem b F w0 W L) (hi : L[i]? = some (blk g cs t0)) (hs : us.size = cs.size) : Mem b F w0 (W.setCells g 0 us.toList) (L.set i (blk g us t0)) := by
  have hz : ∀ (l : List Value) (w : World) (j : Nat), Chg w (w.setCells g j l) (fun k => k = g) := by
    intro l
    induction l with
    | nil => intro w j; exact Chg.refl _ _
    | cons u l ih =>
      intro w j
      have h1 := (Below.refl 0 w).setCell (p := ⟨g, j, none⟩) (Nat.zero_le _) u
      have h2 : Chg w (w.setCell ⟨g, j, none⟩ u) (fun k => k = g) := ⟨h1.os, h1.tape, h1.output, h1.size, fun k _ hn => Below.heap_setCell w _ u k hn⟩
      exact h2.trans (ih _ _) (fun k hk => .inl hk)
  refine hM.set_ hi (fun S hP => ⟨fun k => k = g, fun k => k = g, hz _ _ _, fun k hk => .inl (by rw [hk]; exact hP.1), fun k hk => .inl (by rw [hk]; exact hP.1), rfl, hP.2.1, ?_⟩)
  have key : ∀ (l : List Value) (w : World) (j : Nat) (cur : Array Value), w.heap[g]? = some (.cells cur t0 (0, 0)) → ∃ cur', (w.setCells g j l).heap[g]? = some (.cells cur' t0 (0, 0)) ∧ cur'.size = cur.size ∧ (∀ k, k < cur.size → cur'[k]? = if j ≤ k ∧ k < j + l.length then l[k - j]? else cur[k]?) := by
    intro l
    induction l with
    | nil => intro w j cur hc; exact ⟨cur, hc, rfl, fun k hk => by rw [if_neg (by rw [List.length_nil]; omega)]⟩
    | cons u l ih =>
      intro w j cur hc
      obtain ⟨cur', h1, h2, h3⟩ := ih (w.setCell ⟨g, j, none⟩ u) (j + 1) (cur.setIfInBounds j u) (blk_set hc j u)
      refine ⟨cur', h1, by rw [h2, Array.size_setIfInBounds], fun k hk => ?_⟩
      rw [h3 k (by rw [Array.size_setIfInBounds]; exact hk)]
      by_cases e : k = j
      · subst e
        rw [if_neg (by omega), if_pos (by simp), Nat.sub_self, List.getElem?_cons_zero, Array.getElem?_setIfInBounds_self_of_lt hk]
      · by_cases e2 : j + 1 ≤ k ∧ k < j + 1 + l.length
        · rw [if_pos e2, if_pos (by simp; omega), show k - j = (k - (j + 1)) + 1 by omega, List.getElem?_cons_succ]
        · rw [if_neg e2, if_neg (by simp; omega), Array.getElem?_setIfInBounds_ne (fun h => e h.symm)]
  obtain ⟨cur', h1, h2, h3⟩ := key us.toList W 0 cs hP.2.2
  rw [h1]
  congr 2
  apply Array.ext_getElem?
  intro k
  by_cases hk : k < cs.size
  · rw [h3 k hk, if_pos (by simp; omega)]; simp
  · rw [Array.getElem?_eq_none (by omega), Array.getElem?_eq_none (by omega)]
end
end Go.Proofs.Sep
