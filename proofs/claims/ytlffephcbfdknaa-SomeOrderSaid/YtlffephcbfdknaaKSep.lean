/- A small logic of what memory a call owns, thing by thing, for walks by hand: no program in sight. -/
import Derived.Test.YtlffephcbfdknaaWWords
import Derived.Test.YtlffephcbfdknaaWMore
import Derived.Maps.OwnOps
import Derived.Maps.OwnSet
import Derived.Maps.OwnRows
set_option linter.unusedVariables false
namespace Go.Proofs.Sep
open Go.RowKit Go.Proofs.YtlffephcbfdknaaW.PrintWords Go.Proofs.YtlffephcbfdknaaW.PrintMore

/-- w1 is w but for the blocks of S, and for new ones -/
structure Chg (w w1 : World) (S : Nat → Prop) : Prop where
  os : w1.os = w.os
  tape : w1.tape = w.tape
  output : w1.output = w.output
  size : w.heap.size ≤ w1.heap.size
  block : ∀ k, k < w.heap.size → ¬ S k → w1.heap[k]? = w.heap[k]?
theorem Chg.refl (w : World) (S : Nat → Prop) : Chg w w S := ⟨rfl, rfl, rfl, Nat.le_refl _, fun _ _ _ => rfl⟩
theorem Chg.mono {w w1 : World} {S T : Nat → Prop} (h : Chg w w1 S) (hST : ∀ k, S k → T k) : Chg w w1 T := ⟨h.os, h.tape, h.output, h.size, fun k hk hn => h.block k hk (fun hs => hn (hST k hs))⟩
theorem Chg.trans {w w1 w2 : World} {S T : Nat → Prop} (h : Chg w w1 S) (h' : Chg w1 w2 T) (hT : ∀ k, T k → S k ∨ w.heap.size ≤ k) : Chg w w2 S :=
  ⟨h'.os.trans h.os, h'.tape.trans h.tape, h'.output.trans h.output, Nat.le_trans h.size h'.size, fun k hk hn =>
    (h'.block k (Nat.lt_of_lt_of_le hk h.size) (fun ht => (hT k ht).elim hn (fun hl => absurd hk (by omega)))).trans (h.block k hk hn)⟩
theorem Chg.of_grown {w w1 : World} {row : Option Nat} (h : w.grownBy w1 row) : Chg w w1 (fun k => some k = row) := ⟨h.os, h.tape, h.output, h.size, fun k hk hn => h.block k hk hn⟩
theorem Chg.of_below {w w1 : World} (h : Below w.heap.size w w1) : Chg w w1 (fun _ => False) := ⟨h.os, h.tape, h.output, h.size, fun k hk _ => h.block k hk⟩
theorem Chg.below {w w1 : World} {S : Nat → Prop} {b : Nat} (h : Chg w w1 S) (hS : ∀ k, S k → b ≤ k) (hb : b ≤ w.heap.size) : Below b w w1 :=
  ⟨h.os, h.tape, h.output, h.size, fun k hk => h.block k (Nat.lt_of_lt_of_le hk hb) (fun hs => absurd (hS k hs) (by omega))⟩
theorem Chg.drewN (w : World) (n : Nat) (S : Nat → Prop) : Chg w (w.drewN n) S := ⟨rfl, rfl, rfl, Nat.le_refl _, fun _ _ _ => rfl⟩

/-- A thing in memory: what it says of a world, and which blocks it may speak of. -/
structure Res where
  P : World → Nat → (Nat → Prop) → Prop
  mono : ∀ {w b} {S S' : Nat → Prop}, (∀ k, S k → S' k) → P w b S → P w b S'
  bound : ∀ {w b} {S : Nat → Prop}, P w b S → P w b (fun k => S k ∧ b ≤ k ∧ k < w.heap.size)
  move : ∀ {w w1 b} {S : Nat → Prop}, (∀ k, S k → w1.heap[k]? = w.heap[k]?) → P w b S → P w1 b S
/-- Things that share no block. -/
def Star (w : World) (b : Nat) : (Nat → Prop) → List Res → Prop
  | _, [] => True
  | F, r :: rs => ∃ S : Nat → Prop, (∀ k, S k → F k ∧ b ≤ k ∧ k < w.heap.size) ∧ r.P w b S ∧ Star w b (fun k => F k ∧ ¬ S k) rs

theorem Star.mono {w : World} {b : Nat} {L : List Res} : ∀ {F F' : Nat → Prop}, (∀ k, F k → F' k) → Star w b F L → Star w b F' L := by
  induction L with
  | nil => intro F F' _ _; trivial
  | cons r rs ih =>
    rintro F F' hF ⟨S, hS, hr, hs⟩
    exact ⟨S, fun k hk => ⟨hF k (hS k hk).1, (hS k hk).2⟩, hr, ih (fun k hk => ⟨hF k hk.1, hk.2⟩) hs⟩
theorem Star.bnd {w : World} {b : Nat} {L : List Res} : ∀ {F : Nat → Prop}, Star w b F L → Star w b (fun k => F k ∧ b ≤ k ∧ k < w.heap.size) L := by
  induction L with
  | nil => intro F _; trivial
  | cons r rs ih =>
    rintro F ⟨S, hS, hr, hs⟩
    exact ⟨S, fun k hk => ⟨hS k hk, (hS k hk).2⟩, hr, (ih hs).mono (fun k hk => ⟨⟨hk.1.1, hk.2⟩, hk.1.2⟩)⟩
theorem Star.move {w w1 : World} {b : Nat} {L : List Res} (hsz : w.heap.size ≤ w1.heap.size) : ∀ {F : Nat → Prop}, (∀ k, F k → k < w.heap.size → w1.heap[k]? = w.heap[k]?) → Star w b F L → Star w1 b F L := by
  induction L with
  | nil => intro F _ _; trivial
  | cons r rs ih =>
    rintro F hF ⟨S, hS, hr, hs⟩
    exact ⟨S, fun k hk => ⟨(hS k hk).1, (hS k hk).2.1, Nat.lt_of_lt_of_le (hS k hk).2.2 hsz⟩, r.move (fun k hk => hF k (hS k hk).1 (hS k hk).2.2) hr, ih (fun k hk => hF k hk.1) hs⟩
/-- One thing is taken out, and another one, over its blocks and new ones, takes its place. -/
theorem Star.at_ {w : World} {b : Nat} {L : List Res} {r : Res} : ∀ {i : Nat} {F : Nat → Prop}, Star w b F L → L[i]? = some r →
    ∃ S : Nat → Prop, (∀ k, S k → F k ∧ b ≤ k ∧ k < w.heap.size) ∧ r.P w b S ∧
      ∀ (w1 : World) (T : Nat → Prop) (r1 : Res) (S1 : Nat → Prop), Chg w w1 T → (∀ k, T k → S k ∨ w.heap.size ≤ k) → (∀ k, S1 k → S k ∨ (F k ∧ b ≤ k ∧ w.heap.size ≤ k)) → r1.P w1 b S1 → Star w1 b F (L.set i r1) := by
  induction L with
  | nil => intro i F _ h; simp at h
  | cons r0 rs ih =>
    rintro i F ⟨S, hS, hr, hs⟩ hi
    cases i with
    | zero =>
      simp only [List.getElem?_cons_zero, Option.some.injEq] at hi
      subst hi
      refine ⟨S, hS, hr, fun w1 T r1 S1 hc hT hS1 h1 => ?_⟩
      rw [List.set_cons_zero]
      refine ⟨fun k => S1 k ∧ b ≤ k ∧ k < w1.heap.size, fun k hk => ⟨?_, hk.2⟩, r1.bound h1, ?_⟩
      · rcases hS1 k hk.1 with h | h
        · exact (hS k h).1
        · exact h.1
      · have h2 := hs.bnd.move (w1 := w1) hc.size (fun k hk hlt => hc.block k hlt (fun ht => (hT k ht).elim hk.1.2 (fun h => by omega)))
        refine h2.mono (fun k hk => ⟨hk.1.1, fun h3 => ?_⟩)
        rcases hS1 k h3.1 with h | h
        · exact hk.1.2 h
        · have := hk.2.2; omega
    | succ i =>
      rw [List.getElem?_cons_succ] at hi
      obtain ⟨S2, hS2, hr2, hk2⟩ := ih hs hi
      refine ⟨S2, fun k hk => ⟨(hS2 k hk).1.1, (hS2 k hk).2⟩, hr2, fun w1 T r1 S1 hc hT hS1 h1 => ?_⟩
      rw [List.set_cons_succ]
      refine ⟨S, fun k hk => ⟨(hS k hk).1, (hS k hk).2.1, Nat.lt_of_lt_of_le (hS k hk).2.2 hc.size⟩, r0.move (fun k hk => hc.block k (hS k hk).2.2 (fun ht => ?_)) hr, hk2 w1 T r1 S1 hc hT (fun k hk => ?_) h1⟩
      · rcases hT k ht with h | h
        · exact (hS2 k h).1.2 hk
        · have := (hS k hk).2.2; omega
      · rcases hS1 k hk with h | h
        · exact .inl h
        · exact .inr ⟨⟨h.1, fun hs' => by have := (hS k hs').2.2; omega⟩, h.2⟩
/-- A new thing. -/
theorem Star.push {w w1 : World} {b : Nat} {F : Nat → Prop} {L : List Res} (h : Star w b F L) (hc : Chg w w1 (fun _ => False)) {r : Res} {S1 : Nat → Prop} (h1 : r.P w1 b S1) (hS : ∀ k, S1 k → F k ∧ w.heap.size ≤ k) : Star w1 b F (r :: L) := by
  refine ⟨fun k => S1 k ∧ b ≤ k ∧ k < w1.heap.size, fun k hk => ⟨(hS k hk.1).1, hk.2⟩, r.bound h1, ?_⟩
  refine (h.bnd.move hc.size (fun k _ hlt => hc.block k hlt (fun h => h))).mono (fun k hk => ⟨hk.1, fun h3 => ?_⟩)
  have := (hS k h3.1).2
  have := hk.2.2
  omega
theorem Star.drop {w : World} {b : Nat} {L : List Res} : ∀ {i : Nat} {F : Nat → Prop}, Star w b F L → Star w b F (L.eraseIdx i) := by
  induction L with
  | nil => intro i F _; trivial
  | cons r0 rs ih =>
    rintro i F ⟨S, hS, hr, hs⟩
    cases i with
    | zero => exact hs.mono (fun k hk => hk.1)
    | succ i => exact ⟨S, hS, hr, ih hs⟩
/-- Two things: the second one is taken out, and goes into what takes the first one's place. -/
theorem Star.at2 {w : World} {b : Nat} {F : Nat → Prop} {L : List Res} {r r' : Res} {i j : Nat} (h : Star w b F L) (hi : L[i]? = some r) (hj : (L.eraseIdx i)[j]? = some r') :
    ∃ S S' : Nat → Prop, (∀ k, S k → F k ∧ b ≤ k ∧ k < w.heap.size) ∧ (∀ k, S' k → F k ∧ b ≤ k ∧ k < w.heap.size) ∧ (∀ k, S k → ¬ S' k) ∧ r.P w b S ∧ r'.P w b S' ∧
      ∀ (w1 : World) (T : Nat → Prop) (r1 : Res) (S1 : Nat → Prop), Chg w w1 T → (∀ k, T k → S k ∨ S' k ∨ w.heap.size ≤ k) → (∀ k, S1 k → S k ∨ S' k ∨ (F k ∧ b ≤ k ∧ w.heap.size ≤ k)) → r1.P w1 b S1 → Star w1 b F (r1 :: (L.eraseIdx i).eraseIdx j) := by
  -- the first one ahead of all
  have front : ∀ {L : List Res} {i : Nat} {r : Res} {F : Nat → Prop}, Star w b F L → L[i]? = some r → ∃ S : Nat → Prop, (∀ k, S k → F k ∧ b ≤ k ∧ k < w.heap.size) ∧ r.P w b S ∧ Star w b (fun k => F k ∧ ¬ S k) (L.eraseIdx i) := by
    intro L
    induction L with
    | nil => intro i r F _ h; simp at h
    | cons r0 rs ih =>
      rintro i r F ⟨S, hS, hr, hs⟩ hi
      cases i with
      | zero =>
        simp only [List.getElem?_cons_zero, Option.some.injEq] at hi
        subst hi
        exact ⟨S, hS, hr, hs⟩
      | succ i =>
        rw [List.getElem?_cons_succ] at hi
        obtain ⟨S2, hS2, hr2, hk2⟩ := ih hs hi
        exact ⟨S2, fun k hk => ⟨(hS2 k hk).1.1, (hS2 k hk).2⟩, hr2, S, fun k hk => ⟨⟨(hS k hk).1, fun h2 => (hS2 k h2).1.2 hk⟩, (hS k hk).2⟩, hr, hk2.mono (fun k hk => ⟨⟨hk.1.1, hk.2⟩, hk.1.2⟩)⟩
  obtain ⟨S, hS, hr, hs⟩ := front h hi
  obtain ⟨S', hS', hr', hs'⟩ := front hs hj
  refine ⟨S, S', hS, fun k hk => ⟨(hS' k hk).1.1, (hS' k hk).2⟩, fun k h1 h2 => (hS' k h2).1.2 h1, hr, hr', fun w1 T r1 S1 hc hT hS1 h1 => ?_⟩
  refine ⟨fun k => S1 k ∧ b ≤ k ∧ k < w1.heap.size, fun k hk => ⟨?_, hk.2⟩, r1.bound h1, ?_⟩
  · rcases hS1 k hk.1 with h | h | h
    · exact (hS k h).1
    · exact (hS' k h).1.1
    · exact h.1
  · have h2 := hs'.bnd.move (w1 := w1) hc.size (fun k hk hlt => hc.block k hlt (fun ht => by
      rcases hT k ht with h | h | h
      · exact hk.1.1.2 h
      · exact hk.1.2 h
      · omega))
    refine h2.mono (fun k hk => ⟨hk.1.1.1, fun h3 => ?_⟩)
    rcases hS1 k h3.1 with h | h | h
    · exact hk.1.1.2 h
    · exact hk.1.2 h
    · have := hk.2.2; omega
/-- The first things are handed to a call, which leaves others in their place. -/
theorem Star.split {w : World} {b : Nat} {L2 : List Res} : ∀ {L1 : List Res} {F : Nat → Prop}, Star w b F (L1 ++ L2) →
    ∃ F1 : Nat → Prop, (∀ k, F1 k → F k ∧ b ≤ k ∧ k < w.heap.size) ∧ Star w b F1 L1 ∧ Star w b (fun k => F k ∧ ¬ F1 k) L2 := by
  intro L1
  induction L1 with
  | nil => intro F h; exact ⟨fun _ => False, fun k h => h.elim, trivial, h.mono (fun k hk => ⟨hk, fun h => h⟩)⟩
  | cons r rs ih =>
    rintro F ⟨S, hS, hr, hs⟩
    obtain ⟨F1, hF1, h1, h2⟩ := ih hs
    refine ⟨fun k => S k ∨ F1 k, fun k hk => ?_, ⟨S, fun k hk => ⟨.inl hk, (hS k hk).2⟩, hr, h1.mono (fun k hk => ⟨.inr hk, (hF1 k hk).1.2⟩)⟩, h2.mono (fun k hk => ⟨hk.1.1, fun h => h.elim hk.1.2 hk.2⟩)⟩
    rcases hk with hk | hk
    · exact hS k hk
    · exact ⟨(hF1 k hk).1.1, (hF1 k hk).2⟩
theorem Star.append {w : World} {b : Nat} {L2 : List Res} : ∀ {L1 : List Res} {F1 F2 F : Nat → Prop}, Star w b F1 L1 → Star w b F2 L2 → (∀ k, F1 k → F k) → (∀ k, F2 k → F k ∧ ¬ F1 k) → Star w b F (L1 ++ L2) := by
  intro L1
  induction L1 with
  | nil => intro F1 F2 F _ h2 _ hF2; exact h2.mono (fun k hk => (hF2 k hk).1)
  | cons r rs ih =>
    rintro F1 F2 F ⟨S, hS, hr, hs⟩ h2 hF1 hF2
    exact ⟨S, fun k hk => ⟨hF1 k (hS k hk).1, (hS k hk).2⟩, hr, ih hs h2 (fun k hk => ⟨hF1 k hk.1, hk.2⟩) (fun k hk => ⟨⟨(hF2 k hk).1, fun h => (hF2 k hk).2 (hS k h).1⟩, fun h => (hF2 k hk).2 h.1⟩)⟩

/-! ### the kinds of things -/
/-- A row of the call's own. -/
def row {α : Type} (d : Kd α) (e : Nat) (v : Value) (xs : List α) : Res where
  P := fun w b S => d.R e w b S v xs
  mono := fun h hr => Kd.R_mono hr h
  bound := fun hr => Kd.R_mono (Kd.R_bound hr) (fun k hk => ⟨hk.1, hk.2.1, hk.2.2.1⟩)
  move := fun h hr => Kd.R_move hr h
/-- A block that is known whole: a variable in memory. -/
def blk (g : Nat) (cs : Array Value) (t : TypeId) : Res where
  P := fun w b S => S g ∧ b ≤ g ∧ w.heap[g]? = some (.cells cs t (0, 0))
  mono := fun h hr => ⟨h _ hr.1, hr.2⟩
  bound := fun hr => ⟨⟨hr.1, hr.2.1, blk_lt hr.2.2⟩, hr.2⟩
  move := fun h hr => ⟨hr.1, hr.2.1, (h _ hr.1).trans hr.2.2⟩
/-- A map whose elements lead to nothing: of at most n entries, reading as D. -/
def mp (H : Type) (P : Program) (k e : TypeId) (B n : Nat) (D : DataW H) : Res where
  P := fun w b S => S B ∧ b ≤ B ∧ w.ownsMap P k (plainElem P e) B n D
  mono := fun h hr => ⟨h _ hr.1, hr.2⟩
  bound := fun hr => ⟨⟨hr.1, hr.2.1, hr.2.2.lt⟩, hr.2⟩
  move := fun h hr => ⟨hr.1, hr.2.1, by
    obtain ⟨es, clock, hb, r⟩ := hr.2.2
    exact ⟨es, clock, (h _ hr.1).trans hb, r⟩⟩

/-! ### a call's memory: from w0 on, F: the blocks that came in as its own -/
structure Mem (b : Nat) (F : Nat → Prop) (w0 w : World) (L : List Res) : Prop where
  star : Star w b (fun k => F k ∨ w0.heap.size ≤ k) L
  chg : Chg w0 w F
  base : b ≤ w0.heap.size
theorem Mem.start (w : World) : Mem w.heap.size (fun _ => False) w w [] := ⟨trivial, Chg.refl _ _, Nat.le_refl _⟩
section
variable {b : Nat} {F : Nat → Prop} {w0 w w1 : World} {L : List Res}
theorem Mem.size (h : Mem b F w0 w L) : b ≤ w.heap.size := Nat.le_trans h.base h.chg.size
theorem Mem.size0 (h : Mem b F w0 w L) : w0.heap.size ≤ w.heap.size := h.chg.size
theorem Mem.below (h : Mem w0.heap.size (fun _ => False) w0 w L) : Below w0.heap.size w0 w := h.chg.below (fun _ h => h.elim) (Nat.le_refl _)
theorem Mem.drop (h : Mem b F w0 w L) (i : Nat) : Mem b F w0 w (L.eraseIdx i) := ⟨h.star.drop, h.chg, h.base⟩
/-- Orders were drawn, or new blocks laid: all stays. -/
theorem Mem.grow (h : Mem b F w0 w L) (hc : Below w.heap.size w w1) : Mem b F w0 w1 L :=
  have hc' := Chg.of_below hc
  ⟨h.star.move hc.size (fun k _ hlt => hc.block k hlt), h.chg.trans hc' (fun _ h => h.elim), h.base⟩
theorem Mem.drewN (h : Mem b F w0 w L) (n : Nat) : Mem b F w0 (w.drewN n) L := h.grow (pw_below_drewN (Below.refl _ _) n)
theorem Mem.alloc (h : Mem b F w0 w L) (o : Obj) : Mem b F w0 (w.alloc o) L := h.grow (below_alloc (Below.refl _ _) o)
theorem Mem.set_ {i : Nat} {r r1 : Res} (h : Mem b F w0 w L) (hi : L[i]? = some r)
    (hr : ∀ S : Nat → Prop, r.P w b S → ∃ T S1 : Nat → Prop, Chg w w1 T ∧ (∀ k, T k → S k ∨ w.heap.size ≤ k) ∧ (∀ k, S1 k → S k ∨ w.heap.size ≤ k) ∧ r1.P w1 b S1) : Mem b F w0 w1 (L.set i r1) := by
  obtain ⟨S, hS, hP, hk⟩ := h.star.at_ hi
  obtain ⟨T, S1, hc, hT, hS1, h1⟩ := hr S hP
  refine ⟨hk w1 T r1 S1 hc hT (fun k hk => (hS1 k hk).imp id (fun h2 => ⟨.inr (Nat.le_trans h.size0 h2), Nat.le_trans h.size h2, h2⟩)) h1, h.chg.trans hc (fun k hk => ?_), h.base⟩
  rcases hT k hk with h2 | h2
  · exact (hS k h2).1
  · exact .inr (Nat.le_trans h.size0 h2)
theorem Mem.get_ {i : Nat} {r : Res} (h : Mem b F w0 w L) (hi : L[i]? = some r) : ∃ S : Nat → Prop, r.P w b S ∧ ∀ k, S k → b ≤ k ∧ k < w.heap.size := by
  obtain ⟨S, hS, hP, _⟩ := h.star.at_ hi
  exact ⟨S, hP, fun k hk => (hS k hk).2⟩
theorem Mem.push_ {r : Res} {S1 : Nat → Prop} (h : Mem b F w0 w L) (hc : Below w.heap.size w w1) (h1 : r.P w1 b S1) (hS : ∀ k, S1 k → w.heap.size ≤ k) : Mem b F w0 w1 (r :: L) :=
  ⟨h.star.push (Chg.of_below hc) h1 (fun k hk => ⟨.inr (Nat.le_trans h.size0 (hS k hk)), hS k hk⟩), h.chg.trans (Chg.of_below hc) (fun _ h => h.elim), h.base⟩
/-- A row that a call made. -/
theorem Mem.row_ {α : Type} {d : Kd α} {e : Nat} {v : Value} {xs : List α} (h : Mem b F w0 w L) (hc : Below w.heap.size w w1) (hr : d.R e w1 w.heap.size (fun _ => True) v xs) : Mem b F w0 w1 (row d e v xs :: L) :=
  h.push_ hc (S1 := fun k => w.heap.size ≤ k) (show d.R e w1 b _ v xs from Kd.R_lower (Kd.R_mono (Kd.R_bound hr) (fun k hk => hk.2.1)) h.size) (fun _ hk => hk)
/-- A variable's block that was laid. -/
theorem Mem.blk_ {g : Nat} {cs : Array Value} {t : TypeId} (h : Mem b F w0 w L) (hg : g = w.heap.size) (hb : w1.heap[g]? = some (.cells cs t (0, 0))) (hc : Below w.heap.size w w1) : Mem b F w0 w1 (blk g cs t :: L) :=
  h.push_ hc (S1 := fun k => k = g) ⟨rfl, by rw [hg]; exact h.size, hb⟩ (fun k hk => by rw [hk, hg]; exact Nat.le_refl _)
/-- What a block holds. -/
theorem Mem.cell {i g : Nat} {cs : Array Value} {t : TypeId} (h : Mem b F w0 w L) (hi : L[i]? = some (blk g cs t)) (j : Nat) : w.cell? ⟨g, j, none⟩ = cs[j]? ∧ w.frozen? ⟨g, j, none⟩ = false := by
  obtain ⟨S, hP, _⟩ := h.get_ hi
  exact ⟨blk_cell hP.2.2 j, blk_frozen hP.2.2 j⟩
theorem Mem.blkAt {i g : Nat} {cs : Array Value} {t : TypeId} (h : Mem b F w0 w L) (hi : L[i]? = some (blk g cs t)) : w.heap[g]? = some (.cells cs t (0, 0)) ∧ b ≤ g := by
  obtain ⟨S, hP, _⟩ := h.get_ hi
  exact ⟨hP.2.2, hP.2.1⟩
theorem Mem.rowAt {α : Type} {d : Kd α} {e : Nat} {v : Value} {xs : List α} {i : Nat} (h : Mem b F w0 w L) (hi : L[i]? = some (row d e v xs)) : d.R e w b (fun _ => True) v xs := by
  obtain ⟨S, hP, _⟩ := h.get_ hi
  exact Kd.R_mono (show d.R e w b S v xs from hP) (fun _ _ => trivial)
/-- A cell of a variable's block is written. -/
theorem Mem.setBlk {i g j : Nat} {cs : Array Value} {t : TypeId} {u : Value} (h : Mem b F w0 w L) (hi : L[i]? = some (blk g cs t)) : Mem b F w0 (w.setCell ⟨g, j, none⟩ u) (L.set i (blk g (cs.setIfInBounds j u) t)) := by
  have hz := (Below.refl 0 w).setCell (p := ⟨g, j, none⟩) (Nat.zero_le _) u
  refine h.set_ hi (fun S hP => ⟨fun k => k = g, fun k => k = g, ⟨hz.os, hz.tape, hz.output, hz.size, fun k hk hn => Below.heap_setCell w _ u k hn⟩, fun k hk => .inl (by rw [hk]; exact hP.1), fun k hk => .inl (by rw [hk]; exact hP.1), rfl, hP.2.1, blk_set hP.2.2 j u⟩)
/-- An element of a row of scalars is written. -/
theorem Mem.setRow {α : Type} {enc : α → Value} {h1 : ∀ x, (enc x).oneCell' = true} {e g n cap i : Nat} {xs : List α} (h : Mem b F w0 w L) (hi : L[i]? = some (row (Kd.scalar enc h1) e (.slice (some ⟨g, 0, none⟩) n cap) xs)) (j : Int) (x : α) :
    Mem b F w0 (w.setCell ⟨g, j.toNat, none⟩ (enc x)) (L.set i (row (Kd.scalar enc h1) e (.slice (some ⟨g, 0, none⟩) n cap) (xs.set j.toNat x))) := by
  refine h.set_ hi (fun S hP => ?_)
  have hp := Kd.R_putg (show (Kd.scalar enc h1).R e w b S _ xs from hP) j x
  exact ⟨_, S, Chg.of_grown hp.2, fun k hk => .inl (by injection hk with hk; subst hk; exact hP.1 k (by simp [Value.ownBlock])), fun k hk => .inl hk, hp.1⟩
end
end Go.Proofs.Sep
