/- slices.Clone and slices.Insert of one number, over rows of the call's own (Sep). -/
import Derived.Test.YtlffephcbfdknaaKWb
import Derived.Shelf.Spec.SlicesInsert
import Derived.Shelf.Spec.SlicesInsertGrow
set_option linter.unusedVariables false
set_option linter.unusedSimpArgs false
namespace Go.Proofs.Sep
open Go.RowKit Go.Proofs.YtlffephcbfdknaaW.PrintWords Go.Proofs.YtlffephcbfdknaaW.PrintMore Go.Proofs.YtlffephcbfdknaaW.PrintLast
theorem chg_setCells (g : Nat) : ∀ (l : List Value) (w : World) (j : Nat), Chg w (w.setCells g j l) (fun k => k = g) := by
  intro l
  induction l with
  | nil => intro w j; exact Chg.refl _ _
  | cons u l ih =>
    intro w j
    have h1 := (Below.refl 0 w).setCell (p := ⟨g, j, none⟩) (Nat.zero_le _) u
    have h2 : Chg w (w.setCell ⟨g, j, none⟩ u) (fun k => k = g) := ⟨h1.os, h1.tape, h1.output, h1.size, fun k _ hn => Below.heap_setCell w _ u k hn⟩
    exact h2.trans (ih _ _) (fun k hk => .inl hk)
theorem blk_setCells {g : Nat} {t : TypeId} : ∀ (us : List Value) (w : World) (o : Nat) (cur : Array Value), w.heap[g]? = some (.cells cur t (0, 0)) → o + us.length ≤ cur.size →
    ∃ cur', (w.setCells g o us).heap[g]? = some (.cells cur' t (0, 0)) ∧ cur'.toList = cur.toList.take o ++ us ++ cur.toList.drop (o + us.length) := by
  intro us
  induction us with
  | nil => intro w o cur h hl; exact ⟨cur, h, by simp⟩
  | cons u us ih =>
    intro w o cur h hl
    rw [List.length_cons] at hl
    obtain ⟨cur', h1, h2⟩ := ih (w.setCell ⟨g, o, none⟩ u) (o + 1) (cur.setIfInBounds o u) (blk_set h o u) (by rw [Array.size_setIfInBounds]; omega)
    refine ⟨cur', h1, ?_⟩
    have hlt : o < cur.toList.length := by rw [Array.length_toList]; omega
    rw [h2, Array.toList_setIfInBounds, List.drop_set_of_lt (by omega), show o + 1 + us.length = o + (u :: us).length by rw [List.length_cons]; omega]
    congr 1
    rw [List.take_succ_eq_append_getElem (by simpa using hlt), List.getElem_set_self, List.take_set_of_le (Nat.le_refl o), List.append_assoc]
    rfl
theorem encs_len {α : Type} (enc : α → Value) (xs : List α) : (encs enc xs).length = xs.length := by simp [encs]
theorem encs_take {α : Type} (enc : α → Value) (xs : List α) (i : Nat) : encs enc (xs.take i) = (encs enc xs).take i := by simp [encs, List.map_take]
theorem encs_ins {α : Type} (enc : α → Value) (xs : List α) (i : Nat) (x : α) : encs enc (xs.take i ++ x :: xs.drop i) = (encs enc xs).take i ++ enc x :: (encs enc xs).drop i := by simp [encs, List.map_take, List.map_drop]
theorem ins_len {α : Type} (xs : List α) (i : Nat) (x : α) (h : i ≤ xs.length) : (xs.take i ++ x :: xs.drop i).length = xs.length + 1 := by simp; omega
/-- A row over a block that is known. -/
theorem own_mk {w : World} {b e g cap : Nat} {cur : Array Value} {xs : List Int} (hb : b ≤ g) (h : w.heap[g]? = some (.cells cur e (0, 0))) (hc : cur.size = cap) (hm : cap ≤ maxLen) (hl : xs.length ≤ cap) (ht : cur.toList.take xs.length = encs (Value.int .i64) xs) :
    w.ownsRow b e 1 (.slice (some ⟨g, 0, none⟩) xs.length cap) xs.length (encs (Value.int .i64) xs) :=
  ⟨by rw [encs_len, Nat.mul_one], .inr ⟨g, cap, cur, rfl, hb, h, hl, hm, by rw [Nat.mul_one]; exact hc, by rw [Nat.mul_one]; exact ht⟩⟩
theorem sh_list {α : Type} (cl a rest rest2 : List α) (n t : Nat) (y : α) (h : cl.take n = a) (ha : a.length = n) (ht : t < n) (cl1 cl2 : List α) (h1 : cl1 = cl.take (0 + (t + 1)) ++ a.drop t ++ rest) (h2 : cl2 = cl1.take (0 + t) ++ [y] ++ cl1.drop (0 + t + [y].length)) :
    cl2.take (n + 1) = a.take t ++ y :: a.drop t := by
  have hcl : n ≤ cl.length := by rw [← h, List.length_take] at ha; omega
  have hlen : (cl.take (t + 1)).length = t + 1 := by rw [List.length_take]; omega
  have e1 : cl1.take t = a.take t := by
    rw [h1, Nat.zero_add, List.append_assoc, List.take_append_of_le_length (by omega), List.take_take, ← h, List.take_take]
    congr 1
    omega
  have e2 : cl1.drop (t + 1) = a.drop t ++ rest := by
    rw [h1, Nat.zero_add, List.append_assoc, List.drop_left' hlen]
  rw [h2, Nat.zero_add, List.length_singleton, e1, e2, List.append_assoc]
  have h3 : (a.take t ++ y :: a.drop t).length = n + 1 := by simp; omega
  rw [show a.take t ++ ([y] ++ (a.drop t ++ rest)) = (a.take t ++ y :: a.drop t) ++ rest by simp, List.take_left' h3]
theorem end_list {α : Type} (cl a rest : List α) (n : Nat) (y : α) (h : cl.take n = a) (ha : a.length = n) (cl1 : List α) (h1 : cl1 = cl.take (0 + n) ++ [y] ++ rest) : cl1.take (n + 1) = a.take n ++ y :: a.drop n := by
  have ea : a.take n = a := List.take_of_length_le (by omega)
  have ed : a.drop n = [] := List.drop_of_length_le (by omega)
  rw [ea, ed, h1, Nat.zero_add, h]
  exact List.take_left' (by simp [ha])
theorem grow_list {α : Type} (a z1 z2 rest2 : List α) (n t m : Nat) (y : α) (ha : a.length = n) (ht : t < n) (hz : z1.length = n + 1 - t) (cl cl1 cl2 : List α) (h0 : cl = a.take t ++ z1 ++ z2) (h1 : cl1 = cl.take t ++ [y] ++ cl.drop (t + [y].length)) (h2 : cl2 = cl1.take (t + 1) ++ a.drop t ++ cl1.drop (t + 1 + (a.drop t).length)) :
    cl2.take (n + 1) = a.take t ++ y :: a.drop t := by
  have hl : (a.take t).length = t := by rw [List.length_take]; omega
  have e1 : cl.take t = a.take t := by rw [h0, List.append_assoc, List.take_left' hl]
  have e2 : cl1.take (t + 1) = a.take t ++ [y] := by
    rw [h1, e1]
    exact List.take_left' (by simp; omega)
  rw [h2, e2]
  have h3 : ((a.take t ++ [y]) ++ a.drop t).length = n + 1 := by simp; omega
  rw [List.take_left' h3]
  simp
theorem zc_size (n : Nat) : (Builtin.zeroCells (Value.int .i64 0).cells n).size = n := by
  have : (Value.int .i64 0).cells.size = 1 := rfl
  simp [Builtin.zeroCells, this]
theorem one_encs (xs : List Int) : ∀ v ∈ encs (Value.int .i64) xs, v.oneCell' = true := by
  intro v hv
  obtain ⟨x, _, rfl⟩ := List.mem_map.1 hv
  rfl
end Go.Proofs.Sep
namespace Go.Proofs.Ytlffephcbfdknaa.Wk
open Go.RowKit Go.Proofs.YtlffephcbfdknaaW.PrintWords Go.Proofs.YtlffephcbfdknaaW.PrintMore Go.Proofs.YtlffephcbfdknaaW.PrintLast Go.Proofs.Sep Go.Proofs.Fil
def insRen : Go.Shelf.Ren := ⟨fun | 21 => 47 | 27 => 55 | 28 => 56 | 35 => 60 | 39 => 72 | n => n, fun | 22 => 26 | 3 => 3 | 4 => 4 | 0 => 0 | n => n, fun | n => n⟩
theorem insLays : Go.Proofs.Lays2.n21 Try.prog insRen := {
  mixed := by kernel_rfl
  f21 := Try.func47.trans (congrArg some (by kernel_rfl))
  f27 := Try.func55.trans (congrArg some (by kernel_rfl))
  f28 := Try.func56.trans (congrArg some (by kernel_rfl))
  f35 := Try.func60.trans (congrArg some (by kernel_rfl))
  f39 := Try.func72.trans (congrArg some (by kernel_rfl))
  t0 := Try.underlying0
  a0 := Try.isAgg0
  z0 := Try.sizeOf0
  v0 := Try.zeroValue0
  t3 := Try.underlying3
  a3 := Try.isAgg3
  z3 := Try.sizeOf3
  v3 := Try.zeroValue3
  t4 := Try.underlying4
  a4 := Try.isAgg4
  z4 := Try.sizeOf4
  v4 := Try.zeroValue4
  t22 := Try.underlying26
  a22 := Try.isAgg26
  z22 := Try.sizeOf26
  v22 := Try.zeroValue26
  i3 := by kernel_rfl }
section
variable {b : Nat} {F : Nat → Prop} {w0 w W : World} {L : List Res}
theorem clone_calls (hM : Mem b F w0 w L) (i : Nat) (v : Value) (xs : List Int) (hi : L[i]? = some (row kI 3 v xs)) (hl : xs.length * 8 ≤ 140737488355328) :
    Calls Try.prog 48 #[v] w fun e w' => ∃ v', e = .returned v' ∧ Mem b F w0 w' (row kI 3 v' xs :: L) := by
  by_cases hz : 0 < xs.length
  · obtain ⟨g, cap, rfl, hcap⟩ := hM.rowForm hi hz
    have hC := (Kd.R_reads' (hM.rowAt hi)).2.2
    refine (Try.slices_Clone_int g 0 xs.length cap xs w (Nat.le_refl _) hl (fun j hj => ?_)).mono ?_
    · obtain ⟨ad, e, hc⟩ := Kd.at_int hC (j : Int) (by omega) (by omega)
      injection e with e
      subst e
      have h2 : w.cell? (Addr.add ⟨g, 0, none⟩ j) = some (.int .i64 (rd xs (j : Int))) := by rw [Int.toNat_natCast] at hc; exact hc
      rw [show (⟨g, 0 + j, none⟩ : Addr) = Addr.add ⟨g, 0, none⟩ j by unfold Addr.add; split <;> simp_all, h2]
      simp [rd]
    · rintro e w' ⟨v', rfl, ho, _, hb⟩
      rw [List.take_length] at ho
      exact ⟨v', rfl, hM.row_ hb (Kd.R_of_own ho (fun _ _ => trivial))⟩
  · have hx : xs = [] := List.eq_nil_of_length_eq_zero (by omega)
    subst hx
    obtain ⟨A, cap, rfl, _, _⟩ := hM.rowSlice hi
    cases A with
    | none =>
      refine (Try.slices_Clone_int_nil 0 cap w).mono ?_
      rintro e w' ⟨rfl, rfl⟩
      exact ⟨_, rfl, hM.nil kI 3⟩
    | some a =>
      refine (Try.slices_Clone_int_zero a cap w).mono ?_
      rintro e w' ⟨v', rfl, ho, _, hb⟩
      exact ⟨v', rfl, hM.row_ hb (Kd.R_of_own ho (fun _ _ => trivial))⟩
theorem insert_calls (hM : Mem b F w0 w L) (i j : Nat) (v u : Value) (xs : List Int) (x : Int) (hi : L[i]? = some (row kI 3 v xs)) (hj : (L.eraseIdx i)[j]? = some (row kI 3 u [x])) (t : Nat) (ht : t ≤ xs.length) (hl : xs.length ≤ 1000) :
    Calls Try.prog 47 #[v, .int .i64 (t : Int), u] w fun e w' => ∃ v', e = .returned v' ∧ Mem b F w0 w' (L.set i (row kI 3 v' (xs.take t ++ x :: xs.drop t))) := by
  obtain ⟨S, S', hS, hS', hdis, hP, hP', _⟩ := hM.star.at2 hi hj
  have hR : kI.R 3 w b S v xs := hP
  have hR' : kI.R 3 w b S' u [x] := hP'
  have ho := Kd.own_of_R hR
  have ho' := Kd.own_of_R hR'
  obtain ⟨_, ho'2⟩ := ho'
  rcases ho'2 with ⟨_, h0⟩ | ⟨vb, vc, vcur, rfl, hvb, hvh, hvl, hvm, hvs, hvt⟩
  · simp at h0
  have hcell : ∀ (k : Nat) (q : Value), (encs (Value.int .i64) [x])[k]? = some q → w.cell? ⟨vb, 0 + k, none⟩ = some q := by
    intro k q hq
    rw [blk_cell hvh, Nat.zero_add]
    have h1 : (vcur.toList.take ([x].length * 1))[k]? = some q := by rw [hvt]; exact hq
    rw [List.getElem?_take] at h1
    split at h1
    · rw [Array.getElem?_toList] at h1; exact h1
    · cases h1
  have hne : ∀ g, v.ownBlock = some g → vb ≠ g := fun g hg he => hdis g (hR.1 g hg) (by rw [← he]; exact hR'.1 vb (by simp [Value.ownBlock]))
  -- a new block
  have fresh : ∀ (w' : World) (cap : Nat) (cur : Array Value), Below w.heap.size w w' → w'.heap[w.heap.size]? = some (.cells cur 3 (0, 0)) → cur.size = cap → xs.length + 1 ≤ cap → cap ≤ maxLen → cur.toList.take (xs.length + 1) = encs (Value.int .i64) (xs.take t ++ x :: xs.drop t) →
      Mem b F w0 w' (L.set i (row kI 3 (.slice (some ⟨w.heap.size, 0, none⟩) (xs.length + 1) cap) (xs.take t ++ x :: xs.drop t))) := by
    intro w' cap cur hb h1 h2 h3 h4 h5
    have hlen := ins_len xs t x ht
    refine hM.set_ hi (fun S _ => ⟨fun _ => False, fun k => k = w.heap.size, Chg.of_below hb, fun k hk => hk.elim, fun k hk => .inr (by rw [hk]; exact Nat.le_refl _), ?_⟩)
    rw [← hlen] at h3 h5 ⊢
    exact Kd.R_of_own (own_mk hM.size h1 h2 h4 h3 h5) (fun k hk => by simp [Value.ownBlock] at hk; exact hk.symm)
  -- the old block
  have same : ∀ (g cap : Nat) (cur cur' : Array Value) (w' : World), v = .slice (some ⟨g, 0, none⟩) xs.length cap → Chg w w' (fun k => k = g) → b ≤ g → w'.heap[g]? = some (.cells cur' 3 (0, 0)) → cur'.size = cap → xs.length + 1 ≤ cap → cap ≤ maxLen → cur'.toList.take (xs.length + 1) = encs (Value.int .i64) (xs.take t ++ x :: xs.drop t) →
      Mem b F w0 w' (L.set i (row kI 3 (.slice (some ⟨g, 0, none⟩) (xs.length + 1) cap) (xs.take t ++ x :: xs.drop t))) := by
    intro g cap cur cur' w' hv hc hb h1 h2 h3 h4 h5
    have hlen := ins_len xs t x ht
    subst hv
    refine hM.set_ hi (fun S hPS => ⟨fun k => k = g, S, hc, fun k hk => .inl (by rw [hk]; exact (show kI.R 3 w b S _ xs from hPS).1 g (by simp [Value.ownBlock])), fun k hk => .inl hk, ?_⟩)
    rw [← hlen] at h3 h5 ⊢
    exact Kd.R_of_own (own_mk hb h1 h2 h4 h3 h5) (fun k hk => (show kI.R 3 w b S _ xs from hPS).1 k (by simp [Value.ownBlock] at hk ⊢; exact hk))
  have hxs := encs_len (Value.int .i64) xs
  have h1v : ∀ q ∈ encs (Value.int .i64) [x], q.oneCell' = true := one_encs [x]
  have hins := encs_ins (Value.int .i64) xs t x
  have e1 : encs (Value.int .i64) [x] = [.int .i64 x] := rfl
  rcases ho.2 with ⟨rfl, h0⟩ | ⟨g, cap, cur, rfl, hg, hh, hle, hm, hs, htk⟩
  · have hx0 : xs = [] := List.eq_nil_of_length_eq_zero h0
    subst hx0
    have ht0 : t = 0 := by simpa using ht
    subst ht0
    refine (Any2.slices_Insert_int_end_grow insLays none 0 0 vb 0 1 vc [] (encs (Value.int .i64) [x]) w (by decide) (Nat.le_refl _) (by decide) (by decide) rfl rfl (fun _ => rfl) (fun a h => by cases h) hcell h1v).mono ?_
    rintro e w' ⟨rfl, rfl⟩
    refine ⟨_, rfl, ?_⟩
    have hge := grownCap_ge w (0 + 1) 0 (insRen.t 3)
    have hmx := grownCap_le_maxLen w (0 + 1) 0 (insRen.t 3) (by unfold maxLen; decide)
    refine fresh _ (grownCap w (0 + 1) 0 (insRen.t 3)) _ (below_alloc (Below.refl _ _).drew _) (blk_new w.drew _) ?_ (by simpa using hge) hmx ?_
    · rw [Array.size_append, zc_size, show ((([] : List Value) ++ encs (Value.int .i64) [x]).toArray).size = 1 from rfl]; omega
    · simp [encs]
  · have htk' : cur.toList.take xs.length = encs (Value.int .i64) xs := by rw [← htk, Nat.mul_one]
    have hs' : cur.size = cap := by rw [hs, Nat.mul_one]
    have hcs : ∀ (k : Nat) (q : Value), (encs (Value.int .i64) xs)[k]? = some q → w.cell? ⟨g, 0 + k, none⟩ = some q := by
      intro k q hq
      rw [blk_cell hh, Nat.zero_add]
      rw [← htk', List.getElem?_take] at hq
      split at hq
      · rw [Array.getElem?_toList] at hq; exact hq
      · cases hq
    by_cases hroom : xs.length + 1 ≤ cap
    · by_cases hlt : t < xs.length
      · refine (Any2.slices_Insert_int_shift insLays g 0 xs.length cap t vb 0 1 vc (encs (Value.int .i64) xs) (encs (Value.int .i64) [x]) w hlt (by decide) hroom (by unfold maxLen at hm; omega) (hne g (by simp [Value.ownBlock])) hxs rfl hcs (fun k hk => ?_) (fun k hk => blk_frozen hh _) hcell (one_encs xs) h1v 3 3 vcur.size cur.size ?_ ?_ (by omega) (blk_frozen hvh _) (blk_frozen hvh _)).mono ?_
        · rw [blk_cell hh]
          rw [Array.getElem?_eq_getElem (by omega)]
          rfl
        · simp [World.shape?, hvh]
        · simp [World.shape?, hh]
        · rintro e w' ⟨rfl, rfl⟩
          refine ⟨_, rfl, ?_⟩
          obtain ⟨cur1, h1, h2⟩ := blk_setCells (g := g) ((encs (Value.int .i64) xs).drop t) w.drew (0 + (t + 1)) cur (by exact hh) (by rw [List.length_drop, hxs]; omega)
          have hl1 : cur1.size = cap := by
            rw [← Array.length_toList, h2]
            simp [hxs]
            omega
          obtain ⟨cur2, h3, h4⟩ := blk_setCells (g := g) (encs (Value.int .i64) [x]) (w.drew.setCells g (0 + (t + 1)) ((encs (Value.int .i64) xs).drop t)) (0 + t) cur1 h1 (by rw [encs_len, List.length_singleton]; omega)
          have hl2 : cur2.size = cap := by
            rw [← Array.length_toList, h4]
            simp [encs]
            omega
          refine same g cap cur cur2 _ rfl ((((Chg.of_below (Below.refl _ _).drew).mono (fun k hk => hk.elim)).trans (chg_setCells g _ _ _) (fun k hk => .inl hk)).trans (chg_setCells g _ _ _) (fun k hk => .inl hk)) hg h3 hl2 hroom hm ?_
          rw [hins]
          exact sh_list cur.toList (encs (Value.int .i64) xs) _ [] xs.length t _ htk' hxs hlt _ _ h2 h4
      · have htl : t = xs.length := by omega
        subst htl
        refine (Any2.slices_Insert_int_end_room insLays g 0 xs.length cap vb 0 1 vc (encs (Value.int .i64) [x]) w (by decide) hroom (by unfold maxLen at hm; omega) rfl (fun k hk => ?_) (fun k hk => blk_frozen hh _) hcell h1v).mono ?_
        · rw [blk_cell hh]
          rw [Array.getElem?_eq_getElem (by omega)]
          rfl
        · rintro e w' ⟨rfl, rfl⟩
          refine ⟨_, rfl, ?_⟩
          obtain ⟨cur1, h1, h2⟩ := blk_setCells (g := g) (encs (Value.int .i64) [x]) w (0 + xs.length) cur hh (by rw [encs_len, List.length_singleton]; omega)
          have hl1 : cur1.size = cap := by
            rw [← Array.length_toList, h2]
            simp [encs]
            omega
          refine same g cap cur cur1 _ rfl (chg_setCells g _ _ _) hg h1 hl1 hroom hm ?_
          rw [hins]
          exact end_list cur.toList (encs (Value.int .i64) xs) _ xs.length _ htk' hxs _ h2
    · by_cases hlt : t < xs.length
      · refine (Any2.slices_Insert_int_grow insLays g 0 xs.length cap t vb 0 1 vc (encs (Value.int .i64) xs) (encs (Value.int .i64) [x]) w hlt (by decide) hle (by omega) (by omega) hxs rfl hcs hcell (one_encs xs) h1v).mono ?_
        rintro e w' ⟨rfl, rfl⟩
        refine ⟨_, rfl, ?_⟩
        have hge := grownCap_ge w (xs.length + 1) cap (insRen.t 3)
        have hmx := grownCap_le_maxLen w (xs.length + 1) cap (insRen.t 3) (by unfold maxLen; omega)
        obtain ⟨C, hC⟩ : ∃ C, C = grownCap w (xs.length + 1) cap (insRen.t 3) := ⟨_, rfl⟩
        rw [← hC] at hge hmx ⊢
        obtain ⟨cur0, hc0⟩ : ∃ cur0, cur0 = ((encs (Value.int .i64) xs).take t).toArray ++ Builtin.zeroCells (Value.int .i64 0).cells (xs.length + 1 - t) ++ Builtin.zeroCells (Value.int .i64 0).cells (C - (xs.length + 1)) := ⟨_, rfl⟩
        rw [← hc0]
        have hs0 : cur0.size = C := by
          rw [hc0, Array.size_append, Array.size_append, zc_size, zc_size]
          simp [encs_len]
          omega
        have hb0 : Below w.heap.size w (w.alloc (.cells cur0 (insRen.t 3))).drew := (below_alloc (Below.refl _ _) _).drew
        have hh0 : (w.alloc (.cells cur0 (insRen.t 3))).drew.heap[w.heap.size]? = some (.cells cur0 3 (0, 0)) := blk_new w _
        obtain ⟨cur1, h1, h2⟩ := blk_setCells (g := w.heap.size) (encs (Value.int .i64) [x]) _ t cur0 hh0 (by rw [encs_len, List.length_singleton]; omega)
        have hl1 : cur1.size = C := by
          rw [← Array.length_toList, h2]
          simp [encs]
          omega
        obtain ⟨cur2, h3, h4⟩ := blk_setCells (g := w.heap.size) ((encs (Value.int .i64) xs).drop t) (World.drew ((w.alloc (.cells cur0 (insRen.t 3))).drew.setCells w.heap.size t (encs (Value.int .i64) [x]))) (t + 1) cur1 h1 (by rw [List.length_drop, hxs]; omega)
        have hl2 : cur2.size = C := by
          rw [← Array.length_toList, h4]
          simp [hxs]
          omega
        refine fresh _ C cur2 ?_ h3 hl2 hge hmx ?_
        · have k1 := (Chg.of_below hb0).trans ((chg_setCells w.heap.size (encs (Value.int .i64) [x]) (w.alloc (.cells cur0 (insRen.t 3))).drew t)) (fun k hk => .inr (by rw [hk]; exact Nat.le_refl _))
          have k2 := k1.trans (Chg.of_below (Below.refl _ _).drew) (fun k hk => hk.elim)
          have k3 := k2.trans (chg_setCells w.heap.size ((encs (Value.int .i64) xs).drop t) _ (t + 1)) (fun k hk => .inr (by rw [hk]; exact Nat.le_refl _))
          exact k3.below (fun _ h => h.elim) (Nat.le_refl _)
        · rw [hins]
          exact grow_list (encs (Value.int .i64) xs) (Builtin.zeroCells (Value.int .i64 0).cells (xs.length + 1 - t)).toList (Builtin.zeroCells (Value.int .i64 0).cells (C - (xs.length + 1))).toList [] xs.length t 0 _ hxs hlt (by rw [Array.length_toList, zc_size]) cur0.toList _ _ (by rw [hc0]; simp) h2 h4
      · have htl : t = xs.length := by omega
        subst htl
        refine (Any2.slices_Insert_int_end_grow insLays (some ⟨g, 0, none⟩) xs.length cap vb 0 1 vc (encs (Value.int .i64) xs) (encs (Value.int .i64) [x]) w (by decide) hle (by omega) (by omega) hxs rfl (fun h => by cases h) (fun a h k q hq => ?_) hcell h1v).mono ?_
        · injection h with h
          subst h
          have h2 := hcs k q hq
          rw [show Addr.add ⟨g, 0, none⟩ k = (⟨g, 0 + k, none⟩ : Addr) by unfold Addr.add; split <;> simp_all]
          exact h2
        · rintro e w' ⟨rfl, rfl⟩
          refine ⟨_, rfl, ?_⟩
          have hge := grownCap_ge w (xs.length + 1) cap (insRen.t 3)
          have hmx := grownCap_le_maxLen w (xs.length + 1) cap (insRen.t 3) (by unfold maxLen; omega)
          refine fresh _ (grownCap w (xs.length + 1) cap (insRen.t 3)) _ (below_alloc (Below.refl _ _).drew _) (blk_new w.drew _) ?_ hge hmx ?_
          · rw [Array.size_append, zc_size]; simp [encs_len]; omega
          · rw [hins]
            refine end_list (encs (Value.int .i64) xs) (encs (Value.int .i64) xs) (Builtin.zeroCells (Value.int .i64 0).cells (grownCap w (xs.length + 1) cap (insRen.t 3) - (xs.length + 1))).toList xs.length _ (List.take_of_length_le (by omega)) hxs _ ?_
            rw [Nat.zero_add, List.take_of_length_le (by omega)]
            simp [e1]
end
end Go.Proofs.Ytlffephcbfdknaa.Wk
