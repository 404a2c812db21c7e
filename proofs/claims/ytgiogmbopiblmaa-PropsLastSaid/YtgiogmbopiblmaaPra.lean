/- Pieces of properties: plain laws. No condition but those written. -/
import Derived.Test.YtgiogmbopiblmaaBase
namespace Go.Proofs.Ytgiogmbopiblmaa

/-- A property: its name, its word's kind and number. -/
abbrev Pr := Int × Int × Int
/-- A piece: where it begins, where it ends, what it has. -/
structure Pc where
  fr : Nat
  to : Nat
  pr : List Pr
/-- What a character has. -/
def den : List Pc → Nat → List Pr
  | [], _ => []
  | p :: l, x => if p.fr ≤ x ∧ x < p.to then p.pr else den l x
/-- Pieces in order, none empty, no two that could be one, behind a place b where a piece with q ended. -/
def Nf : Nat → List Pr → List Pc → Prop
  | _, _, [] => True
  | b, q, p :: l => b ≤ p.fr ∧ p.fr < p.to ∧ p.pr ≠ [] ∧ (p.fr = b → p.pr ≠ q) ∧ Nf p.to p.pr l
/-- Where the last piece ends and what it has. -/
def lastE : Nat → List Pr → List Pc → Nat × List Pr
  | b, q, [] => (b, q)
  | _, _, p :: l => lastE p.to p.pr l
theorem den_low : ∀ {l : List Pc} {b x : Nat} {q : List Pr}, Nf b q l → x < b → den l x = []
  | [], _, _, _, _, _ => rfl
  | p :: l, b, x, q, h, hx => by
      obtain ⟨h1, h2, _, _, h5⟩ := h
      unfold den
      rw [if_neg (by omega)]
      exact den_low h5 (by omega)
theorem den_at {l : List Pc} {b : Nat} {q : List Pr} (h : Nf b q l) (hq : q ≠ []) : den l b ≠ q := by
  cases l with
  | nil => exact fun e => hq e.symm
  | cons p l =>
    obtain ⟨h1, h2, h3, h4, h5⟩ := h
    unfold den
    by_cases hp : p.fr = b
    · rw [if_pos (by omega)]
      exact h4 hp
    · rw [if_neg (by omega), den_low h5 (by omega)]
      exact fun e => hq e.symm
theorem Nf.loose {l : List Pc} {b b' : Nat} {q q' : List Pr} (h : Nf b q l) (hb : b' < b) : Nf b' q' l := by
  cases l with
  | nil => trivial
  | cons p l =>
    obtain ⟨h1, h2, h3, h4, h5⟩ := h
    exact ⟨by omega, h2, h3, fun e => by omega, h5⟩
theorem Nf.empty {l : List Pc} {b b' : Nat} {q : List Pr} (h : Nf b q l) (hb : b' ≤ b) : Nf b' [] l := by
  cases l with
  | nil => trivial
  | cons p l =>
    obtain ⟨h1, h2, h3, h4, h5⟩ := h
    exact ⟨by omega, h2, h3, fun _ => h3, h5⟩
/-- Pieces in order are known by what the characters have. -/
theorem Nf.same : ∀ {l l' : List Pc} {b : Nat} {q : List Pr}, Nf b q l → Nf b q l' → (∀ x, b ≤ x → den l x = den l' x) → l = l'
  | [], [], _, _, _, _, _ => rfl
  | [], p :: l', b, q, _, h', e => by
      obtain ⟨h1, h2, h3, h4, h5⟩ := h'
      have := e p.fr h1
      unfold den at this
      rw [if_pos (by omega)] at this
      exact absurd this.symm h3
  | p :: l, [], b, q, h, _, e => by
      obtain ⟨h1, h2, h3, h4, h5⟩ := h
      have := e p.fr h1
      simp only [den] at this
      rw [if_pos (by omega)] at this
      exact absurd this h3
  | p :: l, p' :: l', b, q, h, h', e => by
      obtain ⟨h1, h2, h3, h4, h5⟩ := h
      obtain ⟨g1, g2, g3, g4, g5⟩ := h'
      have d1 : ∀ x, x < p.fr → den (p :: l) x = [] := fun x hx => by
        unfold den
        rw [if_neg (by omega)]
        exact den_low h5 (by omega)
      have d2 : ∀ x, x < p'.fr → den (p' :: l') x = [] := fun x hx => by
        unfold den
        rw [if_neg (by omega)]
        exact den_low g5 (by omega)
      have c1 : ∀ x, p.fr ≤ x → x < p.to → den (p :: l) x = p.pr := fun x ha hb => by
        unfold den
        rw [if_pos ⟨ha, hb⟩]
      have c2 : ∀ x, p'.fr ≤ x → x < p'.to → den (p' :: l') x = p'.pr := fun x ha hb => by
        unfold den
        rw [if_pos ⟨ha, hb⟩]
      have t1 : ∀ x, p.to ≤ x → den (p :: l) x = den l x := fun x ha => by
        simp only [den]
        rw [if_neg (by omega)]
      have t2 : ∀ x, p'.to ≤ x → den (p' :: l') x = den l' x := fun x ha => by
        simp only [den]
        rw [if_neg (by omega)]
      have ef : p.fr = p'.fr := by
        rcases Nat.lt_trichotomy p.fr p'.fr with hlt | heq | hgt
        · have := e p.fr h1
          rw [c1 _ (Nat.le_refl _) h2, d2 _ hlt] at this
          exact absurd this h3
        · exact heq
        · have := e p'.fr g1
          rw [c2 _ (Nat.le_refl _) g2, d1 _ hgt] at this
          exact absurd this.symm g3
      have ep : p.pr = p'.pr := by
        have := e p.fr h1
        rwa [c1 _ (Nat.le_refl _) h2, c2 _ (by omega) (by omega)] at this
      have et : p.to = p'.to := by
        rcases Nat.lt_trichotomy p.to p'.to with hlt | heq | hgt
        · have := e p.to (by omega)
          rw [t1 _ (Nat.le_refl _), c2 _ (by omega) hlt, ← ep] at this
          exact absurd this (den_at h5 h3)
        · exact heq
        · have := e p'.to (by omega)
          rw [t2 _ (Nat.le_refl _), c1 _ (by omega) hgt, ep] at this
          exact absurd this.symm (den_at g5 g3)
      obtain ⟨f, t, q1⟩ := p
      obtain ⟨f', t', q1'⟩ := p'
      simp only at ef ep et
      subst ef ep et
      rw [Nf.same h5 g5 fun x hx => by rw [← t1 x hx, ← t2 x hx]; exact e x (by simp only at h2 h1; omega)]
theorem Nf.app : ∀ {l m : List Pc} {b : Nat} {q : List Pr}, Nf b q (l ++ m) ↔ Nf b q l ∧ Nf (lastE b q l).1 (lastE b q l).2 m
  | [], m, b, q => by simp [Nf, lastE]
  | p :: l, m, b, q => by
      simp only [List.cons_append, Nf, lastE]
      rw [Nf.app (l := l)]
      constructor
      · rintro ⟨h1, h2, h3, h4, h5, h6⟩
        exact ⟨⟨h1, h2, h3, h4, h5⟩, h6⟩
      · rintro ⟨⟨h1, h2, h3, h4, h5⟩, h6⟩
        exact ⟨h1, h2, h3, h4, h5, h6⟩
theorem lastE_app : ∀ (l m : List Pc) (b : Nat) (q : List Pr), lastE b q (l ++ m) = lastE (lastE b q l).1 (lastE b q l).2 m
  | [], _, _, _ => rfl
  | p :: l, m, b, q => by
      simp only [List.cons_append, lastE]
      exact lastE_app l m _ _
theorem lastE_ge : ∀ {l : List Pc} {b : Nat} {q : List Pr}, Nf b q l → b ≤ (lastE b q l).1
  | [], _, _, _ => Nat.le_refl _
  | p :: l, b, q, h => by
      obtain ⟨h1, h2, _, _, h5⟩ := h
      have := lastE_ge h5
      simp only [lastE]
      omega
theorem den_high : ∀ {l : List Pc} {b x : Nat} {q : List Pr}, Nf b q l → (lastE b q l).1 ≤ x → den l x = []
  | [], _, _, _, _, _ => rfl
  | p :: l, b, x, q, h, hx => by
      obtain ⟨h1, h2, _, _, h5⟩ := h
      simp only [lastE] at hx
      have := lastE_ge h5
      unfold den
      rw [if_neg (by omega)]
      exact den_high h5 hx
theorem den_app : ∀ {l m : List Pc} {b x : Nat} {q : List Pr}, Nf b q (l ++ m) → den (l ++ m) x = if x < (lastE b q l).1 then den l x else den m x
  | [], m, b, x, q, h => by
      show den m x = if x < b then den [] x else den m x
      by_cases hx : x < b
      · rw [if_pos hx]
        exact den_low (l := m) h hx
      · rw [if_neg hx]
  | p :: l, m, b, x, q, h => by
      obtain ⟨h1, h2, h3, h4, h5⟩ := h
      have g := lastE_ge (Nf.app.1 h5).1
      have := den_app (l := l) (m := m) (x := x) h5
      show (if p.fr ≤ x ∧ x < p.to then p.pr else den (l ++ m) x) = if x < (lastE p.to p.pr l).1 then (if p.fr ≤ x ∧ x < p.to then p.pr else den l x) else den m x
      by_cases hx : p.fr ≤ x ∧ x < p.to
      · rw [if_pos hx, if_pos (show x < (lastE p.to p.pr l).1 by omega), if_pos hx]
      · rw [if_neg hx, if_neg hx]
        exact this
/-- Where the pieces end. -/
def endP (l : List Pc) : Nat := (lastE 0 [] l).1
theorem endP_nil : endP [] = 0 := rfl
theorem endP_snoc (l : List Pc) (p : Pc) : endP (l ++ [p]) = p.to := by
  unfold endP
  rw [lastE_app]
  rfl
theorem Nf.snoc {l : List Pc} {p : Pc} : Nf 0 [] (l ++ [p]) ↔ Nf 0 [] l ∧ endP l ≤ p.fr ∧ p.fr < p.to ∧ p.pr ≠ [] ∧ (p.fr = endP l → p.pr ≠ (lastE 0 [] l).2) := by
  rw [Nf.app]
  simp only [Nf, and_true]
  rfl
/-- A piece put behind others: one with the last one where they touch and have the same. -/
def addP (l : List Pc) (a b : Nat) (q : List Pr) : List Pc := open Classical in
  if b ≤ a ∨ q = [] then l else match l.getLast? with
    | none => [⟨a, b, q⟩]
    | some p => if p.to = a ∧ p.pr = q then l.dropLast ++ [⟨p.fr, b, q⟩] else l ++ [⟨a, b, q⟩]
theorem snoc_cases (l : List Pc) : l = [] ∨ ∃ k p, l = k ++ [p] := by
  rcases List.eq_nil_or_concat l with h | ⟨k, p, h⟩
  · exact .inl h
  · exact .inr ⟨k, p, by simpa using h⟩
theorem addP_skip {l : List Pc} {a b : Nat} {q : List Pr} (h : b ≤ a ∨ q = []) : addP l a b q = l := by
  unfold addP
  rw [if_pos h]
theorem addP_nil {a b : Nat} {q : List Pr} (h : a < b) (hq : q ≠ []) : addP [] a b q = [⟨a, b, q⟩] := by
  unfold addP
  rw [if_neg (by simp only [not_or]; exact ⟨by omega, hq⟩)]
  rfl
theorem addP_join {k : List Pc} {p : Pc} {a b : Nat} {q : List Pr} (h : a < b) (hq : q ≠ []) (h1 : p.to = a) (h2 : p.pr = q) : addP (k ++ [p]) a b q = k ++ [⟨p.fr, b, q⟩] := by
  unfold addP
  rw [if_neg (by simp only [not_or]; exact ⟨by omega, hq⟩)]
  simp [h1, h2]
theorem addP_more {k : List Pc} {p : Pc} {a b : Nat} {q : List Pr} (h : a < b) (hq : q ≠ []) (h1 : ¬ (p.to = a ∧ p.pr = q)) : addP (k ++ [p]) a b q = (k ++ [p]) ++ [⟨a, b, q⟩] := by
  unfold addP
  rw [if_neg (by simp only [not_or]; exact ⟨by omega, hq⟩)]
  simp only [List.getLast?_append, List.getLast?_singleton, Option.some_or]
  rw [if_neg h1]
/-- The law of a piece put behind others. -/
theorem addP_law {l : List Pc} {a b : Nat} {q : List Pr} (h : Nf 0 [] l) (he : a < b → endP l ≤ a) : Nf 0 [] (addP l a b q) ∧ endP (addP l a b q) ≤ max (endP l) b ∧ endP l ≤ endP (addP l a b q) ∧ ∀ x, den (addP l a b q) x = if a ≤ x ∧ x < b then q else den l x := by
  by_cases hs : b ≤ a ∨ q = []
  · rw [addP_skip hs]
    refine ⟨h, by omega, Nat.le_refl _, fun x => ?_⟩
    split
    · rename_i hx
      rcases hs with hs | hs
      · omega
      · rw [hs]
        exact den_high h (Nat.le_trans (he (by omega)) hx.1)
    · rfl
  · have hab : a < b := Nat.lt_of_not_le fun e => hs (.inl e)
    have hq : q ≠ [] := fun e => hs (.inr e)
    have he := he hab
    rcases snoc_cases l with rfl | ⟨k, p, rfl⟩
    · rw [addP_nil hab hq]
      refine ⟨⟨Nat.zero_le _, hab, hq, fun _ => hq, trivial⟩, ?_, Nat.zero_le _, fun x => rfl⟩
      show b ≤ _
      omega
    · rw [endP_snoc] at he ⊢
      have hk := (Nf.snoc.1 h)
      by_cases hj : p.to = a ∧ p.pr = q
      · rw [addP_join hab hq hj.1 hj.2, endP_snoc]
        have hn : Nf 0 [] (k ++ [⟨p.fr, b, q⟩]) := Nf.snoc.2 ⟨hk.1, hk.2.1, by simp only []; omega, hq, fun e => hj.2 ▸ hk.2.2.2.2 e⟩
        refine ⟨hn, by simp only []; omega, by simp only []; omega, fun x => ?_⟩
        have hE : (lastE 0 [] k).1 ≤ p.fr := hk.2.1
        have h3 := hk.2.2.1
        rw [den_app hn, den_app h]
        simp only [den]
        have e1 := hj.1
        have e2 := hj.2
        by_cases c1 : x < (lastE 0 [] k).1
        · rw [if_pos c1, if_pos c1, if_neg (by omega)]
        · rw [if_neg c1, if_neg c1]
          by_cases c2 : a ≤ x ∧ x < b
          · rw [if_pos (by omega), if_pos c2]
          · rw [if_neg c2]
            by_cases c3 : p.fr ≤ x ∧ x < p.to
            · rw [if_pos (by omega), if_pos c3, e2]
            · rw [if_neg (by omega), if_neg c3]
      · rw [addP_more hab hq hj, endP_snoc]
        have hn : Nf 0 [] ((k ++ [p]) ++ [⟨a, b, q⟩]) := by
          refine Nf.snoc.2 ⟨h, by rw [endP_snoc]; exact he, hab, hq, fun e => ?_⟩
          rw [endP_snoc] at e
          have e : a = p.to := e
          rw [lastE_app]
          exact fun e2 => hj ⟨e.symm, e2.symm⟩
        refine ⟨hn, by simp only []; omega, by simp only []; omega, fun x => ?_⟩
        rw [den_app hn, show (lastE 0 [] (k ++ [p])).1 = p.to by rw [lastE_app]; rfl]
        show (if x < p.to then den (k ++ [p]) x else if a ≤ x ∧ x < b then q else []) = _
        by_cases c : a ≤ x ∧ x < b
        · rw [if_neg (show ¬ x < p.to by omega), if_pos c, if_pos c]
        · rw [if_neg c, if_neg c]
          by_cases c1 : x < p.to
          · rw [if_pos c1]
          · rw [if_neg c1]
            exact (den_high h (by rw [lastE_app]; simp only [lastE]; omega)).symm
theorem addP_app {A out : List Pc} {a b : Nat} {q : List Pr} (h : out ≠ []) : addP (A ++ out) a b q = A ++ addP out a b q := by
  by_cases hs : b ≤ a ∨ q = []
  · rw [addP_skip hs, addP_skip hs]
  · have hab : a < b := Nat.lt_of_not_le fun e => hs (.inl e)
    have hq : q ≠ [] := fun e => hs (.inr e)
    rcases snoc_cases out with rfl | ⟨k, p, rfl⟩
    · exact absurd rfl h
    · rw [← List.append_assoc]
      by_cases hj : p.to = a ∧ p.pr = q
      · rw [addP_join hab hq hj.1 hj.2, addP_join hab hq hj.1 hj.2, List.append_assoc]
      · rw [addP_more hab hq hj, addP_more hab hq hj]
        simp
theorem addP_ne {l : List Pc} {a b : Nat} {q : List Pr} (h : l ≠ []) : addP l a b q ≠ [] := by
  by_cases hs : b ≤ a ∨ q = []
  · rwa [addP_skip hs]
  · have hab : a < b := Nat.lt_of_not_le fun e => hs (.inl e)
    have hq : q ≠ [] := fun e => hs (.inr e)
    rcases snoc_cases l with rfl | ⟨k, p, rfl⟩
    · exact absurd rfl h
    · by_cases hj : p.to = a ∧ p.pr = q
      · rw [addP_join hab hq hj.1 hj.2]; simp
      · rw [addP_more hab hq hj]; simp
end Go.Proofs.Ytgiogmbopiblmaa
