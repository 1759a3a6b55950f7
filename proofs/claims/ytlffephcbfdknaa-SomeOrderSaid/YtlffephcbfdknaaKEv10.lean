/- Rows of things of several cells; a key put into a map in a literal (Sep). -/
import Derived.Test.YtlffephcbfdknaaK2
set_option linter.unusedVariables false
set_option linter.unusedSimpArgs false
namespace Go.Proofs.Sep
open Go.RowKit Go.Proofs.YtlffephcbfdknaaW.PrintWords Go.Proofs.YtlffephcbfdknaaW.PrintMore Go.Proofs.YtlffephcbfdknaaW.PrintLast
section
variable {P : Program} {ops : Array Oper} {rest : List Oper} {o : Oper} {a : Act} {Q : Exit → Act → World → Prop}
variable {b : Nat} {F : Nat → Prop} {w0 W : World} {L : List Res}
/-- map[K]int{x: 0}, behind the map's making. -/
theorem Mem.mapIns (hM : Mem b F w0 W L) (i : Nat) (hgd : o.guard = none) (hN : o.dst = none) (m x v : Operand) (t k e : TypeId) (ho : o.op = .insert t m x v) (K : Maps.Keyed P k) (ht : P.underlying t = some (.map k e)) (he : P.underlying e = some (.int .i64))
    (B : Nat) (Ks : List Lit) (hm : a.eval m = .map (some B)) (hi : L[i]? = some (imap P k e B Ks)) (key : Value) (kl : Lit) (hx : a.eval x = key) (hv : a.eval v = .int .i64 (Ks.length : Int)) (hkey : keyOf P k key = some kl) (hn : kl ∉ Ks) (hl : Ks.length < 9223372036854775807)
    (h : ∀ w1, Mem b F w0 w1 (L.set i (imap P k e B (Ks ++ [kl]))) → wpList P ops Q rest a w1) : wpList P ops Q (o :: rest) a W := by
  obtain ⟨S, hP, _⟩ := hM.get_ hi
  have hwf : (Lit.int .i64 (Ks.length : Int)).wf = true := WalkArith.wf_i64 (by omega)
  obtain ⟨w1, hrun, hown, hg⟩ := hP.2.2.2.2.update K ht (by unfold maxLen; omega) (val := .int .i64 (Ks.length : Int)) hkey (plainElem_int he hwf)
  refine wpList_plain hgd fun Kc hK => ?_
  unfold Oper.wp execOp
  simp only [ho, hm, hx, hv, Sem.run_bind, Sem.run_pure, Result.andThen_ok, hrun]
  show Kc (a.put o.dst undef) _
  rw [hN]
  refine hK a _ (h w1 (hM.set_ hi (fun S1 hP1 => ⟨fun q => q = B, fun q => q = B, (Chg.of_grown hg).mono (fun q hq => by injection hq), fun q hq => .inl (by rw [hq]; exact hP1.1), fun q hq => .inl (by rw [hq]; exact hP1.1), rfl, hP1.2.1, ?_, ?_, ?_⟩)))
  · intro l hl
    rcases List.mem_append.1 hl with h1 | h1
    · exact hP1.2.2.1 l h1
    · rw [List.mem_singleton.1 h1]; exact K.key hkey
  · rw [List.nodup_append]
    exact ⟨hP1.2.2.2.1, by simp, fun p hp q hq => by rw [List.mem_singleton.1 hq]; rintro rfl; exact hn hp⟩
  · rw [mapD_snoc, List.length_append]; exact hown
/-- append(v, x), x of several cells. -/
theorem Mem.appendD {α : Type} (d : Kd α) (hM : Mem b F w0 W L) (i : Nat) (hgd : o.guard = none) (s x : Operand) (t e : TypeId) (z : Value) (bytes : Nat)
    (ho : o.op = .call { callee := .builtin .append, args := #[s, x], argTypes := #[t, t] }) (ht : P.underlying t = some (.slice e)) (hinfo : (P.info? e).map (fun i => (i.zero, i.size, i.bytes)) = some (some z, d.sz, bytes)) (hz : z.cells.size = d.sz) (hs0 : 0 < d.sz) (hb0 : 0 < bytes)
    (v : Value) (xs : List α) (p : α) (cs : Array Value) (hs : a.eval s = v) (hx : a.eval x = .slice (some ⟨W.heap.size, 0, none⟩) 1 1) (hp : d.M W b (fun _ => False) p cs.toList) (hi : L[i]? = some (row d e v xs)) (hl : (xs.length + 1) * bytes ≤ 140737488355328)
    (h : ∀ v1 w1, Mem b F w0 w1 (L.set i (row d e v1 (xs ++ [p]))) → wpList P ops Q rest (a.put o.dst v1) w1) :
    wpList P ops Q (o :: rest) a (W.alloc (.cells cs e)) := by
  obtain ⟨S, hS, hP, hk⟩ := hM.star.at_ hi
  have hP' : d.R e W b S v xs := hP
  refine Kd.R_append d (w0 := W) b hgd s x t e z bytes ho ht hinfo hz hs0 hb0 v xs p cs.toList (fun k => S k ∨ W.heap.size ≤ k) (fun _ => False) hs hx hp (fun _ h => h.elim) (fun _ h => .inr h) (Kd.R_mono hP' (fun _ h => .inl h)) (Below.refl _ _) hM.size hl ?_
  intro v1 w1 hR hB hg hat
  have hc : Chg W w1 (fun k => some k = v.ownBlock) := Chg.of_grown hg
  have hT : ∀ k, some k = v.ownBlock → S k := fun k hk => hP'.1 k hk.symm
  refine h v1 w1 ⟨hk w1 _ (row d e v1 (xs ++ [p])) (fun k => S k ∨ W.heap.size ≤ k) hc (fun k hk => .inl (hT k hk)) (fun k hk => hk.imp id (fun h2 => ⟨.inr (Nat.le_trans hM.size0 h2), Nat.le_trans hM.size h2, h2⟩)) hR, hM.chg.trans hc (fun k hk => (hS k (hT k hk)).1), hM.base⟩
/-- '[]T{x}', x of several cells. -/
theorem Mem.litD {α : Type} (d : Kd α) (hM : Mem b F w0 W L) (e : Nat) (hgd : o.guard = none) {N : Tmp} (hd : o.dst = some N) (p : α) (cs : Array Value) (hcs : d.M W b (fun _ => False) p cs.toList)
    (hrun : (execOp a.eval o).run P W = .ok (.value (.slice (some ⟨W.heap.size, 0, none⟩) 1 1)) (W.alloc (.cells cs e)))
    (h : ∀ v1 w1, Mem b F w0 w1 (row d e v1 [p] :: L) → wpList P ops Q rest (a.put o.dst v1) w1) : wpList P ops Q (o :: rest) a W := by
  have hlen : cs.toList.length = d.sz := d.K_len (d.K_of_M hcs)
  refine Kd.R_lit d (w0 := W) b e hgd hd (xs := [p]) (inner := cs.toList) (ok := fun k => W.heap.size ≤ k) (okp := fun _ => False) hrun ⟨by rw [hlen]; simp, fun j q hj => ?_⟩ (fun _ h => h.elim) (Nat.le_refl _) (Below.refl _ _) hM.size (by simp) ?_
  · cases j with
    | zero =>
      simp only [List.getElem?_cons_zero, Option.some.injEq] at hj
      subst hj
      rw [Nat.zero_mul, List.drop_zero, List.take_of_length_le (by omega)]
      exact hcs
    | succ j => simp at hj
  · intro v1 w1 hR hB hg hnew
    have hc : Chg W w1 (fun _ => False) := (Chg.of_grown hg).mono (fun k hk => by cases hk)
    exact h v1 w1 ⟨hM.star.push hc (show d.R e w1 b (fun k => W.heap.size ≤ k) v1 _ from hR) (fun k hk => ⟨.inr (Nat.le_trans hM.size0 hk), hk⟩), hM.chg.trans hc (fun _ h => h.elim), hM.base⟩
end
end Go.Proofs.Sep
