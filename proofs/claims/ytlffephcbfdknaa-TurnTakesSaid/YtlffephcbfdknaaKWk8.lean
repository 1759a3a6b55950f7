/- Walk by hand: the law TurnTakes. -/
import Derived.Test.YtlffephcbfdknaaKFct
import Derived.Test.YtlffephcbfdknaaK2
set_option linter.unusedVariables false
set_option linter.unusedSimpArgs false
namespace Go.Proofs.Ytlffephcbfdknaa.Wk
open Go.RowKit Go.Proofs.YtlffephcbfdknaaW.PrintWords Go.Proofs.YtlffephcbfdknaaW.PrintMore Go.Proofs.YtlffephcbfdknaaW.PrintLast Go.Proofs.Sep Go.Proofs.Fil Go.Proofs.Ytlffephcbfdknaa.Chk Go.Proofs.Ytlffephcbfdknaa.PTurnTakes

/-- Turn answers with an automaton. -/
def TurnsTo (base tracks : Int) (l2 : List (List Int)) (l3 : List Bool) (n : Nat) (T : Tab) (out m : Tab × List Bool) : Prop :=
  Ok base tracks l2 l3 n T ∧ Go.Proofs.Fil.Can n (lof n (T, l3) 0) out ∧ (turnO n out.1 out.2).length ≤ 2000 ∧ Go.Proofs.Fil.Can n (lof n (turnA n out.1 out.2) 0) m ∧ m.1.length ≤ 80
theorem TurnPost.yes {base tracks : Int} {l2 : List (List Int)} {l3 : List Bool} {B : Nat} {e : Ending} {w' : World} (h : TurnPost base tracks l2 l3 B e w') {n : Nat} {T : Tab} {out m : Tab × List Bool} (ht : TurnsTo base tracks l2 l3 n T out m) :
    ∃ v2 v3, e = .returned (.tuple #[.agg #[.int .i64 base, .int .i64 tracks, v2, v3], .nilIface]) ∧ kL.R 26 w' B (fun _ => True) v2 (II m.1) ∧ kB.R 4 w' B (fun _ => True) v3 m.2 := by
  obtain ⟨h1, h2, h3, h4, h5⟩ := ht
  rcases h with ⟨n', T', out', m', h1', h2', h3', h4', h5', v2, v3, he, hr2, hr3⟩ | ⟨x, hx, he, hno | ⟨_, n', T', out', h1', h2', hbig⟩⟩
  · obtain ⟨rfl, rfl, rfl⟩ := turn_uniq h1 h2 h1' h2'
    obtain rfl := h4.unique h4'
    exact ⟨v2, v3, he, hr2, hr3⟩
  · exact absurd ⟨n, T, h1⟩ hno
  · obtain ⟨rfl, rfl, rfl⟩ := turn_uniq h1 h2 h1' h2'
    rcases hbig with hbig | ⟨_, m', hm', hbig⟩
    · exact absurd hbig (by omega)
    · rw [hm'.unique h4] at hbig
      exact absurd hbig (by omega)
theorem TurnPost.no {base tracks : Int} {l2 : List (List Int)} {l3 : List Bool} {B : Nat} {e : Ending} {w' : World} (h : TurnPost base tracks l2 l3 B e w') (hno : ¬ ∃ n T out m, TurnsTo base tracks l2 l3 n T out m) :
    ∃ x, e = .returned (.tuple #[.agg #[.int .i64 0, .int .i64 0, .slice none 0 0, .slice none 0 0], errW (some x)]) := by
  rcases h with ⟨n', T', out', m', h1', h2', h3', h4', h5', _⟩ | ⟨x, hx, he, _⟩
  · exact absurd ⟨n', T', out', m', h1', h2', h3', h4', h5'⟩ hno
  · exact ⟨x, he⟩
theorem turns0 : TurnsTo 2 1 (II T0) e0 2 T0 (T0, e0) (M0, f0) :=
  ⟨⟨by decide +kernel, rfl, wf0, by decide⟩, can0, by rw [turnO0]; decide, by rw [turnA0]; exact canM0, by decide⟩
/-- What is turned, turned again. -/
theorem TurnsTo.again {base tracks : Int} {l2 : List (List Int)} {l3 : List Bool} {n : Nat} {T : Tab} {out m : Tab × List Bool} (h : TurnsTo base tracks l2 l3 n T out m) : TurnsTo base tracks (II m.1) m.2 n m.1 m out := by
  obtain ⟨h1, h2, h3, h4, h5⟩ := h
  have hL : Proper n (lof n (T, l3) 0) := lang_proper _ _ _ _
  have h80 : out.1.length ≤ 80 := Nat.le_trans (can_le h1.wf h2) h1.small
  have hlo : lof n (out.1, out.2) 0 = lof n (T, l3) 0 := h2.lof hL
  rw [turn_lang h2.wf (by omega) h3, hlo] at h4
  obtain ⟨h6, h7⟩ := turn_twice hL h2 h4 h80 h5
  have hlm : lof n (m.1, m.2) 0 = revL (lof n (T, l3) 0) := h4.lof (revL_proper hL)
  exact ⟨⟨h1.many, rfl, h4.wf, h5⟩, by rw [hlm]; exact h4, by omega, by rw [h7]; exact h2, h80⟩
/-- What is turned takes the word from behind. -/
theorem TurnsTo.takes {base tracks : Int} {l2 : List (List Int)} {l3 : List Bool} {n : Nat} {T : Tab} {out m : Tab × List Bool} (h : TurnsTo base tracks l2 l3 n T out m) (w : List Nat) : lof n (m.1, m.2) 0 w = lof n (T, l3) 0 w.reverse := by
  obtain ⟨h1, h2, h3, h4, h5⟩ := h
  have hL : Proper n (lof n (T, l3) 0) := lang_proper _ _ _ _
  have h80 : out.1.length ≤ 80 := Nat.le_trans (can_le h1.wf h2) h1.small
  have hlo : lof n (out.1, out.2) 0 = lof n (T, l3) 0 := h2.lof hL
  rw [turn_lang h2.wf (by omega) h3, hlo] at h4
  have hlm : lof n (m.1, m.2) 0 = revL (lof n (T, l3) 0) := h4.lof (revL_proper hL)
  rw [hlm]
  rfl
/-- Both words are run, or neither; alike. -/
theorem TurnsTo.two {base tracks : Int} {l2 : List (List Int)} {l3 : List Bool} {n : Nat} {T : Tab} {out m : Tab × List Bool} (h : TurnsTo base tracks l2 l3 n T out m) (lw : List Int) (hlw : lw.length < 9223372036854775807) :
    ∃ k x r k' r', auto_Takes.f k base tracks (II m.1) m.2 lw = some (x, r) ∧ auto_Takes.f k' base tracks l2 l3 lw.reverse = some (x, r') ∧ ((r = none ∧ r' = none) ∨ ∃ y y', r = some y ∧ r' = some y') := by
  obtain ⟨k, x, r, hk, hy, _⟩ := takes_spec base tracks (II m.1) m.2 lw hlw
  obtain ⟨k', x', r', hk', hy', _⟩ := takes_spec base tracks l2 l3 lw.reverse (by simpa using hlw)
  have h1 := hy n m.1 h.again.1
  have h2 := hy' n T h.1
  have hw : WordOk n lw ↔ WordOk n lw.reverse := by unfold WordOk; simp
  by_cases hok : WordOk n lw
  · obtain ⟨e1, e2⟩ := h1.1 hok
    obtain ⟨e3, e4⟩ := h2.1 (hw.1 hok)
    have e5 : x = x' := by rw [e1, e3, h.takes, List.map_reverse]
    subst e5
    exact ⟨k, x, r, k', r', hk, hk', .inl ⟨e2, e4⟩⟩
  · obtain ⟨e1, e2⟩ := h1.2 hok
    obtain ⟨e3, e4⟩ := h2.2 (fun h => hok (hw.2 h))
    have e5 : x = x' := by rw [e1, e3]
    subst e5
    obtain ⟨y, hy⟩ := Option.isSome_iff_exists.1 e2
    obtain ⟨y', hy'⟩ := Option.isSome_iff_exists.1 e4
    exact ⟨k, x, r, k', r', hk, hk', .inr ⟨y, y', hy, hy'⟩⟩
/-- It is the same as itself. -/
theorem TurnsTo.same {base tracks : Int} {l2 : List (List Int)} {l3 : List Bool} {n : Nat} {T : Tab} {out m : Tab × List Bool} (h : TurnsTo base tracks l2 l3 n T out m) :
    ∃ k, filbertsame_Autos.f k base tracks (II out.1) out.2 base tracks (II out.1) out.2 = some true := by
  have h1 := h.again.again.1
  have hn := manyN_le h1.many
  obtain ⟨k, r, hk, hr⟩ := autos_spec base tracks (II out.1) out.2 base tracks (II out.1) out.2 (by rw [II_len]; have := h1.small; omega) (fun r hr => by
    obtain ⟨r', hr', rfl⟩ := List.mem_map.1 hr
    rw [I_len, h1.wf.row r' hr']
    omega) (by rw [h1.wf.len]; have := h1.small; omega)
  exact ⟨k, by rw [hk, hr.2 ⟨rfl, rfl, rfl, rfl⟩]⟩
end Go.Proofs.Ytlffephcbfdknaa.Wk
