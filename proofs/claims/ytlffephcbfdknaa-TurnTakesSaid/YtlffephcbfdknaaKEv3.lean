/- More steps on what a call owns (Sep): structs stored and loaded whole, a store of one cell in a region of its own. -/
import Derived.Test.YtlffephcbfdknaaKEv2
set_option linter.unusedVariables false
namespace Go.Proofs.Sep
open Go.RowKit Go.Proofs.YtlffephcbfdknaaW.PrintWords Go.Proofs.YtlffephcbfdknaaW.PrintMore Go.Proofs.YtlffephcbfdknaaW.PrintLast
section
variable {P : Program} {ops : Array Oper} {rest : List Oper} {o : Oper} {a : Act} {Q : Exit → Act → World → Prop}
variable {b : Nat} {F : Nat → Prop} {w0 W : World} {L : List Res}
/-- *p = T{..} -/
theorem Mem.storeAll (hM : Mem b F w0 W L) (i : Nat) (hN : o.dst = none) (hgd : o.guard = none) (t : TypeId) (p x : Operand) (ho : o.op = .store t p x) {g : Nat} {cs us : Array Value} {t0 : TypeId}
    (haddr : a.eval p = .pointer (some ⟨g, 0, none⟩)) (hx : a.eval x = .agg us) (h1 : ∀ q ∈ us.toList, q.oneCell' = true) (ht : (P.info? t).map (·.size) = some us.size) (hi : L[i]? = some (blk g cs t0)) (hs : us.size = cs.size)
    (h : ∀ w1, Mem b F w0 w1 (L.set i (blk g us t0)) → wpList P ops Q rest a w1) : wpList P ops Q (o :: rest) a W := by
  have hb := (hM.blkAt hi).1
  have hrun := run_store_run (P := P) (o := 0) t (.agg us) us.toList hb rfl (by simpa using ht) (by simp; omega) h1
  refine wpList_plain hgd fun K hK => ?_
  unfold Oper.wp execOp
  simp only [ho, haddr, hx, Sem.run_bind, Sem.run_pure, Result.andThen_ok, hrun]
  show K (a.put o.dst undef) _
  rw [hN]
  exact hK a _ (h _ (hM.setAll hi hs))
/-- *p, a struct -/
theorem Mem.loadAll (hM : Mem b F w0 W L) (i : Nat) (hgd : o.guard = none) (t : TypeId) (p : Operand) (ho : o.op = .load t p) {g : Nat} {cs : Array Value} {t0 : TypeId} (d : TypeDesc)
    (haddr : a.eval p = .pointer (some ⟨g, 0, none⟩)) (hu : P.underlying t = some d) (hd : (match d with | .struct _ | .array _ _ => true | _ => false) = true) (ht : (P.info? t).map (·.size) = some cs.size) (hi : L[i]? = some (blk g cs t0))
    (h : wpList P ops Q rest (a.put o.dst (.agg cs)) W) : wpList P ops Q (o :: rest) a W := by
  have hb := (hM.blkAt hi).1
  have hrun := run_loadVar_row (P := P) W g t0 t cs (0, 0) d hb hu hd ht
  refine wpList_plain hgd fun K hK => ?_
  unfold Oper.wp execOp
  simp only [ho, haddr, Instr.loadAt, Instr.sureAddr, Sem.run_bind, Sem.run_pure, Result.andThen_ok, hrun]
  exact hK _ _ h
end
end Go.Proofs.Sep
