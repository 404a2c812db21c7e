/- Pieces of properties: plain laws. No condition but those written. -/
import Derived.Test.YtgiogmbopiblmaaBase
namespace Go.Proofs.Ytgiogmbopiblmaa

/-- A property: its name, its word's kind and number. -/
abbrev Pr := Int × Int × Int
/-- A piece: where it begins, where it ends, what it has. -/
structure Pc where
  fr : Nat
  to : Nat
  pr : List Pr
/-- What a character has. -/
def den : List Pc → Nat → List Pr
  | [], _ => []
  | p :: l, x => if p.fr ≤ x ∧ x < p.to then p.pr else den l x
/-- Pieces in order, none empty, no two that could be one, behind a place b where a piece with q ended. -/
def Nf : Nat → List Pr → List Pc → Prop
  | _, _, [] => True
  | b, q, p :: l => b ≤ p.fr ∧ p.fr < p.to ∧ p.pr ≠ [] ∧ (p.fr = b → p.pr ≠ q) ∧ Nf p.to p.pr l
/-- Where the last piece ends and what it has. -/
def lastE : Nat → List Pr → List Pc → Nat × List Pr
  | b, q, [] => (b, q)
  | _, _, p :: l => lastE p.to p.pr l
theorem den_low : ∀ {l : List Pc} {b x : Nat} {q : List Pr}, Nf b q l → x < b → den l x = []
  | [], _, _, _, _, _ => rfl
  | p :: l, b, x, q, h, hx => by
      obtain ⟨h1, h2, _, _, h5⟩ := h
      unfold den
      rw [if_neg (by omega)]
      exact den_low h5 (by omega)
theorem den_at {l : List Pc} {b : Nat} {q : List Pr} (h : Nf b q l) (hq : q ≠ []) : den l b ≠ q := by
  cases l with
  | nil => exact fun e => hq e.symm
  | cons p l =>
    obtain ⟨h1, h2, h3, h4, h5⟩ := h
    unfold den
    by_cases hp : p.fr = b
    · rw [if_pos (by omega)]
      exact h4 hp
    · rw [if_neg (by omega), den_low h5 (by omega)]
      exact fun e => hq e.symm
theorem Nf.loose {l : List Pc} {b b' : Nat} {q q' : List Pr} (h : Nf b q l) (hb : b' < b) : Nf b' q' l := by
  cases l with
  | nil => trivial
  | cons p l =>
    obtain ⟨h1, h2, h3, h4, h5⟩ := h
    exact ⟨by omega, h2, h3, fun e => by omega, h5⟩
theorem Nf.empty {l : List Pc} {b b' : Nat} {q : List Pr} (h : Nf b q l) (hb : b' ≤ b) : Nf b' [] l := by
  cases l with
  | nil => trivial
  | cons p l =>
    obtain ⟨h1, h2, h3, h4, h5⟩ := h
    exact ⟨by omega, h2, h3, fun _ => h3, h5⟩
/-- Pieces in order are known by what the characters have. -/
theorem Nf.same : ∀ {l l' : List Pc} {b : Nat} {q : List Pr}, Nf b q l → Nf b q l' → (∀ x, b ≤ x → den l x = den l' x) → l = l'
  | [], [], _, _, _, _, _ => rfl
  | [], p :: l', b, q, _, h', e => by
      obtain ⟨h1, h2, h3, h4, h5⟩ := h'
      have := e p.fr h1
      unfold den at this
      rw [if_pos (by omega)] at this
      exact absurd this.symm h3
  | p :: l, [], b, q, h, _, e => by
      obtain ⟨h1, h2, h3, h4, h5⟩ := h
      have := e p.fr h1
      simp only [den] at this
      rw [if_pos (by omega)] at this
      exact absurd this h3
  | p :: l, p' :: l', b, q, h, h', e => by
      obtain ⟨h1, h2, h3, h4, h5⟩ := h
      obtain ⟨g1, g2, g3, g4, g5⟩ := h'
      have d1 : ∀ x, x < p.fr → den (p :: l) x = [] := fun x hx => by
        unfold den
        rw [if_neg (by omega)]
        exact den_low h5 (by omega)
      have d2 : ∀ x, x < p'.fr → den (p' :: l') x = [] := fun x hx => by
        unfold den
        rw [if_neg (by omega)]
        exact den_low g5 (by omega)
      have c1 : ∀ x, p.fr ≤ x → x < p.to → den (p :: l) x = p.pr := fun x ha hb => by
        unfold den
        rw [if_pos ⟨ha, hb⟩]
      have c2 : ∀ x, p'.fr ≤ x → x < p'.to → den (p' :: l') x = p'.pr := fun x ha hb => by
        unfold den
        rw [if_pos ⟨ha, hb⟩]
      have t1 : ∀ x, p.to ≤ x → den (p :: l) x = den l x := fun x ha => by
        simp only [den]
        rw [if_neg (by omega)]
      have t2 : ∀ x, p'.to ≤ x → den (p' :: l') x = den l' x := fun x ha => by
        simp only [den]
        rw [if_neg (by omega)]
      have ef : p.fr = p'.fr := by
        rcases Nat.lt_trichotomy p.fr p'.fr with hlt | heq | hgt
        · have := e p.fr h1
          rw [c1 _ (Nat.le_refl _) h2, d2 _ hlt] at this
          exact absurd this h3
        · exact heq
        · have := e p'.fr g1
          rw [c2 _ (Nat.le_refl _) g2, d1 _ hgt] at this
          exact absurd this.symm g3
      have ep : p.pr = p'.pr := by
        have := e p.fr h1
        rwa [c1 _ (Nat.le_refl _) h2, c2 _ (by omega) (by omega)] at this
      have et : p.to = p'.to := by
        rcases Nat.lt_trichotomy p.to p'.to with hlt | heq | hgt
        · have := e p.to (by omega)
          rw [t1 _ (Nat.le_refl _), c2 _ (by omega) hlt, ← ep] at this
          exact absurd this (den_at h5 h3)
        · exact heq
        · have := e p'.to (by omega)
          rw [t2 _ (Nat.le_refl _), c1 _ (by omega) hgt, ep] at this
          exact absurd this.symm (den_at g5 g3)
      obtain ⟨f, t, q1⟩ := p
      obtain ⟨f', t', q1'⟩ := p'
      simp only at ef ep et
      subst ef ep et
      rw [Nf.same h5 g5 fun x hx => by rw [← t1 x hx, ← t2 x hx]; exact e x (by simp only at h2 h1; omega)]
theorem Nf.app : ∀ {l m : List Pc} {b : Nat} {q : List Pr}, Nf b q (l ++ m) ↔ Nf b q l ∧ Nf (lastE b q l).1 (lastE b q l).2 m
  | [], m, b, q => by simp [Nf, lastE]
  | p :: l, m, b, q => by
      simp only [List.cons_append, Nf, lastE]
      rw [Nf.app (l := l)]
      constructor
      · rintro ⟨h1, h2, h3, h4, h5, h6⟩
        exact ⟨⟨h1, h2, h3, h4, h5⟩, h6⟩
      · rintro ⟨⟨h1, h2, h3, h4, h5⟩, h6⟩
        exact ⟨h1, h2, h3, h4, h5, h6⟩
theorem lastE_app : ∀ (l m : List Pc) (b : Nat) (q : List Pr), lastE b q (l ++ m) = lastE (lastE b q l).1 (lastE b q l).2 m
  | [], _, _, _ => rfl
  | p :: l, m, b, q => by
      simp only [List.cons_append, lastE]
      exact lastE_app l m _ _
theorem lastE_ge : ∀ {l : List Pc} {b : Nat} {q : List Pr}, Nf b q l → b ≤ (lastE b q l).1
  | [], _, _, _ => Nat.le_refl _
  | p :: l, b, q, h => by
      obtain ⟨h1, h2, _, _, h5⟩ := h
      have := lastE_ge h5
      simp only [lastE]
      omega
theorem den_high : ∀ {l : List Pc} {b x : Nat} {q : List Pr}, Nf b q l → (lastE b q l).1 ≤ x → den l x = []
  | [], _, _, _, _, _ => rfl
  | p :: l, b, x, q, h, hx => by
      obtain ⟨h1, h2, _, _, h5⟩ := h
      simp only [lastE] at hx
      have := lastE_ge h5
      unfold den
      rw [if_neg (by omega)]
      exact den_high h5 hx
theorem den_app : ∀ {l m : List Pc} {b x : Nat} {q : List Pr}, Nf b q (l ++ m) → den (l ++ m) x = if x < (lastE b q l).1 then den l x else den m x
  | [], m, b, x, q, h => by
      show den m x = if x < b then den [] x else den m x
      by_cases hx : x < b
      · rw [if_pos hx]
        exact den_low (l := m) h hx
      · rw [if_neg hx]
  | p :: l, m, b, x, q, h => by
      obtain ⟨h1, h2, h3, h4, h5⟩ := h
      have g := lastE_ge (Nf.app.1 h5).1
      have := den_app (l := l) (m := m) (x := x) h5
      show (if p.fr ≤ x ∧ x < p.to then p.pr else den (l ++ m) x) = if x < (lastE p.to p.pr l).1 then (if p.fr ≤ x ∧ x < p.to then p.pr else den l x) else den m x
      by_cases hx : p.fr ≤ x ∧ x < p.to
      · rw [if_pos hx, if_pos (show x < (lastE p.to p.pr l).1 by omega), if_pos hx]
      · rw [if_neg hx, if_neg hx]
        exact this
/-- Where the pieces end. -/
def endP (l : List Pc) : Nat := (lastE 0 [] l).1
theorem endP_nil : endP [] = 0 := rfl
theorem endP_snoc (l : List Pc) (p : Pc) : endP (l ++ [p]) = p.to := by
  unfold endP
  rw [lastE_app]
  rfl
theorem Nf.snoc {l : List Pc} {p : Pc} : Nf 0 [] (l ++ [p]) ↔ Nf 0 [] l ∧ endP l ≤ p.fr ∧ p.fr < p.to ∧ p.pr ≠ [] ∧ (p.fr = endP l → p.pr ≠ (lastE 0 [] l).2) := by
  rw [Nf.app]
  simp only [Nf, and_true]
  rfl
/-- A piece put behind others: one with the last one where they touch and have the same. -/
def addP (l : List Pc) (a b : Nat) (q : List Pr) : List Pc := open Classical in
  if b ≤ a ∨ q = [] then l else match l.getLast? with
    | none => [⟨a, b, q⟩]
    | some p => if p.to = a ∧ p.pr = q then l.dropLast ++ [⟨p.fr, b, q⟩] else l ++ [⟨a, b, q⟩]
theorem snoc_cases (l : List Pc) : l = [] ∨ ∃ k p, l = k ++ [p] := by
  rcases List.eq_nil_or_concat l with h | ⟨k, p, h⟩
  · exact .inl h
  · exact .inr ⟨k, p, by simpa using h⟩
theorem addP_skip {l : List Pc} {a b : Nat} {q : List Pr} (h : b ≤ a ∨ q = []) : addP l a b q = l := by
  unfold addP
  rw [if_pos h]
theorem addP_nil {a b : Nat} {q : List Pr} (h : a < b) (hq : q ≠ []) : addP [] a b q = [⟨a, b, q⟩] := by
  unfold addP
  rw [if_neg (by simp only [not_or]; exact ⟨by omega, hq⟩)]
  rfl
theorem addP_join {k : List Pc} {p : Pc} {a b : Nat} {q : List Pr} (h : a < b) (hq : q ≠ []) (h1 : p.to = a) (h2 : p.pr = q) : addP (k ++ [p]) a b q = k ++ [⟨p.fr, b, q⟩] := by
  unfold addP
  rw [if_neg (by simp only [not_or]; exact ⟨by omega, hq⟩)]
  simp [h1, h2]
theorem addP_more {k : List Pc} {p : Pc} {a b : Nat} {q : List Pr} (h : a < b) (hq : q ≠ []) (h1 : ¬ (p.to = a ∧ p.pr = q)) : addP (k ++ [p]) a b q = (k ++ [p]) ++ [⟨a, b, q⟩] := by
  unfold addP
  rw [if_neg (by simp only [not_or]; exact ⟨by omega, hq⟩)]
  simp only [List.getLast?_append, List.getLast?_singleton, Option.some_or]
  rw [if_neg h1]
/-- The law of a piece put behind others. -/
theorem addP_law {l : List Pc} {a b : Nat} {q : List Pr} (h : Nf 0 [] l) (he : a < b → endP l ≤ a) : Nf 0 [] (addP l a b q) ∧ endP (addP l a b q) ≤ max (endP l) b ∧ endP l ≤ endP (addP l a b q) ∧ ∀ x, den (addP l a b q) x = if a ≤ x ∧ x < b then q else den l x := by
  by_cases hs : b ≤ a ∨ q = []
  · rw [addP_skip hs]
    refine ⟨h, by omega, Nat.le_refl _, fun x => ?_⟩
    split
    · rename_i hx
      rcases hs with hs | hs
      · omega
      · rw [hs]
        exact den_high h (Nat.le_trans (he (by omega)) hx.1)
    · rfl
  · have hab : a < b := Nat.lt_of_not_le fun e => hs (.inl e)
    have hq : q ≠ [] := fun e => hs (.inr e)
    have he := he hab
    rcases snoc_cases l with rfl | ⟨k, p, rfl⟩
    · rw [addP_nil hab hq]
      refine ⟨⟨Nat.zero_le _, hab, hq, fun _ => hq, trivial⟩, ?_, Nat.zero_le _, fun x => rfl⟩
      show b ≤ _
      omega
    · rw [endP_snoc] at he ⊢
      have hk := (Nf.snoc.1 h)
      by_cases hj : p.to = a ∧ p.pr = q
      · rw [addP_join hab hq hj.1 hj.2, endP_snoc]
        have hn : Nf 0 [] (k ++ [⟨p.fr, b, q⟩]) := Nf.snoc.2 ⟨hk.1, hk.2.1, by simp only []; omega, hq, fun e => hj.2 ▸ hk.2.2.2.2 e⟩
        refine ⟨hn, by simp only []; omega, by simp only []; omega, fun x => ?_⟩
        have hE : (lastE 0 [] k).1 ≤ p.fr := hk.2.1
        have h3 := hk.2.2.1
        rw [den_app hn, den_app h]
        simp only [den]
        have e1 := hj.1
        have e2 := hj.2
        by_cases c1 : x < (lastE 0 [] k).1
        · rw [if_pos c1, if_pos c1, if_neg (by omega)]
        · rw [if_neg c1, if_neg c1]
          by_cases c2 : a ≤ x ∧ x < b
          · rw [if_pos (by omega), if_pos c2]
          · rw [if_neg c2]
            by_cases c3 : p.fr ≤ x ∧ x < p.to
            · rw [if_pos (by omega), if_pos c3, e2]
            · rw [if_neg (by omega), if_neg c3]
      · rw [addP_more hab hq hj, endP_snoc]
        have hn : Nf 0 [] ((k ++ [p]) ++ [⟨a, b, q⟩]) := by
          refine Nf.snoc.2 ⟨h, by rw [endP_snoc]; exact he, hab, hq, fun e => ?_⟩
          rw [endP_snoc] at e
          have e : a = p.to := e
          rw [lastE_app]
          exact fun e2 => hj ⟨e.symm, e2.symm⟩
        refine ⟨hn, by simp only []; omega, by simp only []; omega, fun x => ?_⟩
        rw [den_app hn, show (lastE 0 [] (k ++ [p])).1 = p.to by rw [lastE_app]; rfl]
        show (if x < p.to then den (k ++ [p]) x else if a ≤ x ∧ x < b then q else []) = _
        by_cases c : a ≤ x ∧ x < b
        · rw [if_neg (show ¬ x < p.to by omega), if_pos c, if_pos c]
        · rw [if_neg c, if_neg c]
          by_cases c1 : x < p.to
          · rw [if_pos c1]
          · rw [if_neg c1]
            exact (den_high h (by rw [lastE_app]; simp only [lastE]; omega)).symm
theorem addP_app {A out : List Pc} {a b : Nat} {q : List Pr} (h : out ≠ []) : addP (A ++ out) a b q = A ++ addP out a b q := by
  by_cases hs : b ≤ a ∨ q = []
  · rw [addP_skip hs, addP_skip hs]
  · have hab : a < b := Nat.lt_of_not_le fun e => hs (.inl e)
    have hq : q ≠ [] := fun e => hs (.inr e)
    rcases snoc_cases out with rfl | ⟨k, p, rfl⟩
    · exact absurd rfl h
    · rw [← List.append_assoc]
      by_cases hj : p.to = a ∧ p.pr = q
      · rw [addP_join hab hq hj.1 hj.2, addP_join hab hq hj.1 hj.2, List.append_assoc]
      · rw [addP_more hab hq hj, addP_more hab hq hj]
        simp
theorem addP_ne {l : List Pc} {a b : Nat} {q : List Pr} (h : l ≠ []) : addP l a b q ≠ [] := by
  by_cases hs : b ≤ a ∨ q = []
  · rwa [addP_skip hs]
  · have hab : a < b := Nat.lt_of_not_le fun e => hs (.inl e)
    have hq : q ≠ [] := fun e => hs (.inr e)
    rcases snoc_cases l with rfl | ⟨k, p, rfl⟩
    · exact absurd rfl h
    · by_cases hj : p.to = a ∧ p.pr = q
      · rw [addP_join hab hq hj.1 hj.2]; simp
      · rw [addP_more hab hq hj]; simp
end Go.Proofs.Ytgiogmbopiblmaa
namespace Go.Proofs.Ytgiogmbopiblmaa

/-- Between a place and an end, where there is something between. -/
def fillP (q : List Pr) (out : List Pc) (p e : Nat) : List Pc := if p < e then addP out p e q else out
theorem fillP_law {l : List Pc} {a b : Nat} {q : List Pr} (h : Nf 0 [] l) (he : a < b → endP l ≤ a) : Nf 0 [] (fillP q l a b) ∧ endP (fillP q l a b) ≤ max (endP l) b ∧ ∀ x, den (fillP q l a b) x = if a ≤ x ∧ x < b then q else den l x := by
  unfold fillP
  by_cases hab : a < b
  · rw [if_pos hab]
    have := addP_law (q := q) h he
    exact ⟨this.1, this.2.1, this.2.2.2⟩
  · rw [if_neg hab]
    refine ⟨h, by omega, fun x => ?_⟩
    rw [if_neg (by omega)]
theorem fillP_skip {l : List Pc} {a b : Nat} {q : List Pr} (h : ¬ a < b) : fillP q l a b = l := if_neg h
theorem fillP_app {A out : List Pc} {a b : Nat} {q : List Pr} (h : out ≠ []) : fillP q (A ++ out) a b = A ++ fillP q out a b := by
  unfold fillP
  split
  · exact addP_app h
  · rfl
theorem fillP_ne {l : List Pc} {a b : Nat} {q : List Pr} (h : l ≠ []) : fillP q l a b ≠ [] := by
  unfold fillP
  split
  · exact addP_ne h
  · exact h
/-- One piece gone over, when the lists between two places change. -/
def chgA (fr : Nat) (st : List Pc × Nat) (p : Pc) : List Pc × Nat := (addP st.1 p.fr (min p.to fr) p.pr, st.2)
def chgB (fr to : Nat) (f : List Pr → List Pr) (st : List Pc × Nat) (p : Pc) : List Pc × Nat :=
  if max p.fr fr < min p.to to then (addP (fillP (f []) st.1 st.2 (max p.fr fr)) (max p.fr fr) (min p.to to) (f p.pr), min p.to to) else st
def chgC (to : Nat) (f : List Pr → List Pr) (st : List Pc × Nat) (p : Pc) : List Pc × Nat :=
  if to < p.to then (addP (fillP (f []) st.1 st.2 to) (max p.fr to) p.to p.pr, if st.2 < to then to else st.2) else st
def chgStep (fr to : Nat) (f : List Pr → List Pr) (st : List Pc × Nat) (p : Pc) : List Pc × Nat := chgC to f (chgB fr to f (chgA fr st p) p) p
def chgFold (fr to : Nat) (f : List Pr → List Pr) (l : List Pc) (st : List Pc × Nat) : List Pc × Nat := l.foldl (chgStep fr to f) st
def changedP (fr to : Nat) (f : List Pr → List Pr) (l : List Pc) : List Pc := fillP (f []) (chgFold fr to f l ([], fr)).1 (chgFold fr to f l ([], fr)).2 to
/-- What a character has when the lists between two places change. -/
def tgt (fr to : Nat) (f : List Pr → List Pr) (d : Nat → List Pr) (x : Nat) : List Pr := if fr ≤ x ∧ x < to then f (d x) else d x
/-- Behind pieces l: what has been written, and how far. -/
structure ChgInv (fr to : Nat) (f : List Pr → List Pr) (l : List Pc) (st : List Pc × Nat) : Prop where
  nf : Nf 0 [] st.1
  en : endP st.1 ≤ endP l
  at_ : st.2 = max fr (min (endP l) to)
  dn : ∀ x, den st.1 x = if x < endP l then tgt fr to f (den l) x else []
theorem den_snoc {l : List Pc} {p : Pc} (h : Nf 0 [] (l ++ [p])) (x : Nat) : den (l ++ [p]) x = if x < endP l then den l x else if p.fr ≤ x ∧ x < p.to then p.pr else [] := by
  rw [den_app h]
  rfl
set_option maxHeartbeats 4000000 in
theorem chg_step {fr to : Nat} {f : List Pr → List Pr} {l : List Pc} {p : Pc} {st : List Pc × Nat} (hn : Nf 0 [] (l ++ [p])) (hft : fr ≤ to) (h : ChgInv fr to f l st) : ChgInv fr to f (l ++ [p]) (chgStep fr to f st p) := by
  obtain ⟨out, at_⟩ := st
  obtain ⟨h1, h2, h3, h4⟩ := h
  simp only at h1 h2 h3 h4
  obtain ⟨-, k1, k2, k3, -⟩ := Nf.snoc.1 hn
  have hd := den_snoc hn
  have hE : endP (l ++ [p]) = p.to := endP_snoc l p
  have hdl : ∀ x, endP l ≤ x → den l x = [] := fun x hx => den_high (Nf.snoc.1 hn).1 hx
  obtain ⟨E, hEl⟩ : ∃ E, E = endP l := ⟨_, rfl⟩
  rw [← hEl] at *
  obtain ⟨a1, a2, -, a4⟩ := addP_law (a := p.fr) (b := min p.to fr) (q := p.pr) h1 (fun _ => by omega)
  obtain ⟨o1, ho1⟩ : ∃ o, o = addP out p.fr (min p.to fr) p.pr := ⟨_, rfl⟩
  rw [← ho1] at a1 a2 a4
  have e1 : chgA fr (out, at_) p = (o1, at_) := by unfold chgA; rw [ho1]
  unfold chgStep
  rw [e1]
  by_cases hab : max p.fr fr < min p.to to
  · have e2 : chgB fr to f (o1, at_) p = (addP (fillP (f []) o1 at_ (max p.fr fr)) (max p.fr fr) (min p.to to) (f p.pr), min p.to to) := if_pos hab
    obtain ⟨b1, b2, b3⟩ := fillP_law (a := at_) (b := max p.fr fr) (q := f []) a1 (fun _ => by omega)
    obtain ⟨o2, ho2⟩ : ∃ o, o = fillP (f []) o1 at_ (max p.fr fr) := ⟨_, rfl⟩
    rw [← ho2] at b1 b2 b3 e2
    obtain ⟨c1, c2, -, c3⟩ := addP_law (a := max p.fr fr) (b := min p.to to) (q := f p.pr) b1 (fun _ => by omega)
    obtain ⟨o3, ho3⟩ : ∃ o, o = addP o2 (max p.fr fr) (min p.to to) (f p.pr) := ⟨_, rfl⟩
    rw [← ho3] at c1 c2 c3 e2
    rw [e2]
    by_cases ht : to < p.to
    · have e3 : chgC to f (o3, min p.to to) p = (addP (fillP (f []) o3 (min p.to to) to) (max p.fr to) p.to p.pr, if min p.to to < to then to else min p.to to) := if_pos ht
      rw [e3, fillP_skip (by omega)]
      obtain ⟨d1, d2, -, d3⟩ := addP_law (a := max p.fr to) (b := p.to) (q := p.pr) c1 (fun _ => by omega)
      refine ⟨d1, by rw [hE]; simp only []; omega, by rw [hE]; simp only []; split <;> omega, fun x => ?_⟩
      rw [hE]
      simp only [d3, c3, b3, a4, h4, tgt, hd]
      repeat' split
      all_goals first | rfl | omega | (exfalso; omega)
    · have e3 : chgC to f (o3, min p.to to) p = (o3, min p.to to) := if_neg ht
      rw [e3]
      refine ⟨c1, by rw [hE]; simp only []; omega, by rw [hE]; simp only []; omega, fun x => ?_⟩
      rw [hE]
      simp only [c3, b3, a4, h4, tgt, hd]
      repeat' split
      all_goals first | rfl | omega | (exfalso; omega)
  · have e2 : chgB fr to f (o1, at_) p = (o1, at_) := if_neg hab
    rw [e2]
    by_cases ht : to < p.to
    · have e3 : chgC to f (o1, at_) p = (addP (fillP (f []) o1 at_ to) (max p.fr to) p.to p.pr, if at_ < to then to else at_) := if_pos ht
      rw [e3]
      obtain ⟨b1, b2, b3⟩ := fillP_law (a := at_) (b := to) (q := f []) a1 (fun _ => by omega)
      obtain ⟨o2, ho2⟩ : ∃ o, o = fillP (f []) o1 at_ to := ⟨_, rfl⟩
      rw [← ho2] at b1 b2 b3 ⊢
      obtain ⟨d1, d2, -, d3⟩ := addP_law (a := max p.fr to) (b := p.to) (q := p.pr) b1 (fun _ => by omega)
      refine ⟨d1, by rw [hE]; simp only []; omega, by rw [hE]; simp only []; split <;> omega, fun x => ?_⟩
      rw [hE]
      simp only [d3, b3, a4, h4, tgt, hd]
      repeat' split
      all_goals first | rfl | omega | (exfalso; omega)
    · have e3 : chgC to f (o1, at_) p = (o1, at_) := if_neg ht
      rw [e3]
      refine ⟨a1, by rw [hE]; simp only []; omega, by rw [hE]; simp only []; omega, fun x => ?_⟩
      rw [hE]
      simp only [a4, h4, tgt, hd]
      repeat' split
      all_goals first | rfl | omega | (exfalso; omega)
theorem snoc_ind {α : Type} {P : List α → Prop} (h0 : P []) (h1 : ∀ l x, P l → P (l ++ [x])) (l : List α) : P l := by
  rw [← List.reverse_reverse l]
  induction l.reverse with
  | nil => exact h0
  | cons x t ih => rw [List.reverse_cons]; exact h1 _ _ ih
theorem chg_fold {fr to : Nat} {f : List Pr → List Pr} (hft : fr ≤ to) (l : List Pc) : Nf 0 [] l → ChgInv fr to f l (chgFold fr to f l ([], fr)) := by
  refine snoc_ind (P := fun l => Nf 0 [] l → ChgInv fr to f l (chgFold fr to f l ([], fr))) ?_ ?_ l
  · intro _
    refine ⟨trivial, Nat.le_refl _, ?_, fun x => ?_⟩
    · show fr = max fr (min 0 to)
      omega
    · rw [if_neg (show ¬ x < endP [] from Nat.not_lt_zero x)]
      rfl
  · intro l p ih h
    have := chg_step h hft (ih (Nf.snoc.1 h).1)
    unfold chgFold at this ⊢
    rw [List.foldl_append]
    exact this
theorem changed_law {fr to : Nat} (f : List Pr → List Pr) {l : List Pc} (h : Nf 0 [] l) (hft : fr ≤ to) : Nf 0 [] (changedP fr to f l) ∧ ∀ x, den (changedP fr to f l) x = tgt fr to f (den l) x := by
  obtain ⟨h1, h2, h3, h4⟩ := chg_fold (f := f) hft l h
  obtain ⟨b1, b2, b3⟩ := fillP_law (a := (chgFold fr to f l ([], fr)).2) (b := to) (q := f []) h1 (fun _ => by omega)
  refine ⟨b1, fun x => ?_⟩
  have hdl : endP l ≤ x → den l x = [] := fun hx => den_high h hx
  unfold changedP
  rw [b3, h4, h3]
  unfold tgt
  by_cases hx : endP l ≤ x
  · rw [hdl hx]
    repeat' split
    all_goals first | rfl | omega | (exfalso; omega)
  · repeat' split
    all_goals first | rfl | omega | (exfalso; omega)
/-! ### Only the pieces there and next to it -/
theorem addP_last {l : List Pc} {a b : Nat} {q : List Pr} (h : a < b) (hq : q ≠ []) : lastE 0 [] (addP l a b q) = (b, q) := by
  rcases snoc_cases l with rfl | ⟨k, p, rfl⟩
  · rw [addP_nil h hq]
    rfl
  · by_cases hj : p.to = a ∧ p.pr = q
    · rw [addP_join h hq hj.1 hj.2, lastE_app]
      rfl
    · rw [addP_more h hq hj, lastE_app]
      rfl
theorem addP_new {l : List Pc} {p : Pc} (h : Nf 0 [] (l ++ [p])) : addP l p.fr p.to p.pr = l ++ [p] := by
  obtain ⟨h1, h2, h3, h4, h5⟩ := Nf.snoc.1 h
  rcases snoc_cases l with rfl | ⟨k, z, rfl⟩
  · rw [addP_nil h3 h4]
    rfl
  · refine addP_more h3 h4 fun hj => ?_
    rw [endP_snoc, lastE_app] at h5
    exact h5 hj.1.symm hj.2.symm
section
variable {fr to : Nat} {f : List Pr → List Pr}
theorem chgFold_app (A B : List Pc) (st : List Pc × Nat) : chgFold fr to f (A ++ B) st = chgFold fr to f B (chgFold fr to f A st) := List.foldl_append ..
theorem step_low {out : List Pc} {p : Pc} (hft : fr ≤ to) (hp : p.to ≤ fr) (hn : Nf 0 [] (out ++ [p])) : chgStep fr to f (out, fr) p = (out ++ [p], fr) := by
  obtain ⟨_, _, h3, _, _⟩ := Nf.snoc.1 hn
  have e1 : chgA fr (out, fr) p = (out ++ [p], fr) := by
    unfold chgA
    rw [show min p.to fr = p.to by omega, addP_new hn]
  have e2 : chgB fr to f (out ++ [p], fr) p = (out ++ [p], fr) := if_neg (by omega)
  have e3 : chgC to f (out ++ [p], fr) p = (out ++ [p], fr) := if_neg (by omega)
  unfold chgStep
  rw [e1, e2, e3]
theorem fold_low (hft : fr ≤ to) : ∀ (A out : List Pc), Nf 0 [] (out ++ A) → (∀ p ∈ A, p.to ≤ fr) → chgFold fr to f A (out, fr) = (out ++ A, fr)
  | [], out, _, _ => by simp [chgFold]
  | p :: A, out, hn, hp => by
      have hn2 : Nf 0 [] ((out ++ [p]) ++ A) := by simpa using hn
      show chgFold fr to f A (chgStep fr to f (out, fr) p) = _
      rw [step_low hft (hp p (List.mem_cons_self ..)) (Nf.app.1 hn2).1, fold_low hft A (out ++ [p]) hn2 fun z hz => hp z (List.mem_cons_of_mem _ hz)]
      simp
theorem step_pre {A out : List Pc} {n : Nat} {p : Pc} (ho : out ≠ []) : chgStep fr to f (A ++ out, n) p = (A ++ (chgStep fr to f (out, n) p).1, (chgStep fr to f (out, n) p).2) ∧ (chgStep fr to f (out, n) p).1 ≠ [] := by
  have h1 : ∀ (o : List Pc) (n : Nat), o ≠ [] → chgA fr (A ++ o, n) p = (A ++ (chgA fr (o, n) p).1, (chgA fr (o, n) p).2) ∧ (chgA fr (o, n) p).1 ≠ [] := fun o n ho => by
    unfold chgA
    exact ⟨by simp only []; rw [addP_app ho], addP_ne ho⟩
  have h2 : ∀ (o : List Pc) (n : Nat), o ≠ [] → chgB fr to f (A ++ o, n) p = (A ++ (chgB fr to f (o, n) p).1, (chgB fr to f (o, n) p).2) ∧ (chgB fr to f (o, n) p).1 ≠ [] := fun o n ho => by
    unfold chgB
    split
    · exact ⟨by simp only []; rw [fillP_app ho, addP_app (fillP_ne ho)], addP_ne (fillP_ne ho)⟩
    · exact ⟨rfl, ho⟩
  have h3 : ∀ (o : List Pc) (n : Nat), o ≠ [] → chgC to f (A ++ o, n) p = (A ++ (chgC to f (o, n) p).1, (chgC to f (o, n) p).2) ∧ (chgC to f (o, n) p).1 ≠ [] := fun o n ho => by
    unfold chgC
    split
    · exact ⟨by simp only []; rw [fillP_app ho, addP_app (fillP_ne ho)], addP_ne (fillP_ne ho)⟩
    · exact ⟨rfl, ho⟩
  unfold chgStep
  obtain ⟨a1, a2⟩ := h1 out n ho
  rw [a1]
  obtain ⟨b1, b2⟩ := h2 (chgA fr (out, n) p).1 (chgA fr (out, n) p).2 a2
  rw [b1]
  obtain ⟨c1, c2⟩ := h3 (chgB fr to f (chgA fr (out, n) p) p).1 (chgB fr to f (chgA fr (out, n) p) p).2 b2
  exact ⟨c1, c2⟩
theorem fold_pre {A : List Pc} : ∀ (M out : List Pc) (n : Nat), out ≠ [] → chgFold fr to f M (A ++ out, n) = (A ++ (chgFold fr to f M (out, n)).1, (chgFold fr to f M (out, n)).2) ∧ (chgFold fr to f M (out, n)).1 ≠ []
  | [], out, n, ho => ⟨rfl, ho⟩
  | p :: M, out, n, ho => by
      obtain ⟨h1, h2⟩ := step_pre (fr := fr) (to := to) (f := f) (A := A) (n := n) (p := p) ho
      have := fold_pre (A := A) M (chgStep fr to f (out, n) p).1 (chgStep fr to f (out, n) p).2 h2
      show chgFold fr to f M (chgStep fr to f (A ++ out, n) p) = _ ∧ _
      rw [h1]
      exact this
theorem step_over {st : List Pc × Nat} {p : Pc} (hp : to < p.to) (hf : p.fr < p.to) (hq : p.pr ≠ []) : lastE 0 [] (chgStep fr to f st p).1 = (p.to, p.pr) ∧ to ≤ (chgStep fr to f st p).2 := by
  unfold chgStep chgC
  rw [if_pos hp]
  exact ⟨addP_last (by omega) hq, by simp only []; split <;> omega⟩
theorem fold_high (hft : fr ≤ to) : ∀ (B out : List Pc) (n : Nat), to ≤ n → Nf 0 [] (out ++ B) → out ≠ [] → (∀ p ∈ B, to < p.fr) → chgFold fr to f B (out, n) = (out ++ B, n)
  | [], out, n, _, _, _, _ => by simp [chgFold]
  | p :: B, out, n, hn, h, ho, hp => by
      have h2 : Nf 0 [] ((out ++ [p]) ++ B) := by simpa using h
      have hpf := hp p (List.mem_cons_self ..)
      have h3 := (Nf.snoc.1 (Nf.app.1 h2).1).2.2.1
      have e1 : chgA fr (out, n) p = (out, n) := by
        unfold chgA
        rw [addP_skip (.inl (by omega))]
      have e2 : chgB fr to f (out, n) p = (out, n) := if_neg (by omega)
      have e3 : chgC to f (out, n) p = (out ++ [p], n) := by
        unfold chgC
        rw [if_pos (by omega), fillP_skip (by simp only []; omega), show max p.fr to = p.fr by omega, addP_new (Nf.app.1 h2).1]
        simp only []
        rw [if_neg (by omega)]
      show chgFold fr to f B (chgStep fr to f (out, n) p) = _
      unfold chgStep
      rw [e1, e2, e3, fold_high hft B (out ++ [p]) n hn h2 (by simp) fun z hz => hp z (List.mem_cons_of_mem _ hz)]
      simp
end
/-- The index of the first piece that ends behind a place. -/
def firstP : List Pc → Nat → Nat
  | [], _ => 0
  | p :: l, x => if p.to ≤ x then firstP l x + 1 else 0
theorem firstP_le : ∀ (l : List Pc) (x : Nat), firstP l x ≤ l.length
  | [], _ => Nat.le_refl _
  | p :: l, x => by
      unfold firstP
      have := firstP_le l x
      split <;> simp <;> omega
theorem firstP_low : ∀ (l : List Pc) (x : Nat), ∀ p ∈ l.take (firstP l x), p.to ≤ x
  | [], _, p, hp => by simp at hp
  | z :: l, x, p, hp => by
      unfold firstP at hp
      split at hp
      · rename_i hz
        rw [List.take_succ_cons] at hp
        rcases List.mem_cons.1 hp with rfl | hp
        · exact hz
        · exact firstP_low l x p hp
      · simp at hp
theorem firstP_at : ∀ (l : List Pc) (x : Nat) (p : Pc), l[firstP l x]? = some p → x < p.to
  | [], _, p, hp => by simp at hp
  | z :: l, x, p, hp => by
      unfold firstP at hp
      split at hp
      · exact firstP_at l x p (by simpa using hp)
      · simp at hp
        subst hp
        omega
theorem firstP_mono : ∀ (l : List Pc) {x y : Nat}, x ≤ y → firstP l x ≤ firstP l y
  | [], _, _, _ => Nat.le_refl _
  | z :: l, x, y, h => by
      unfold firstP
      have := firstP_mono l h
      split
      · rw [if_pos (by omega)]
        omega
      · exact Nat.zero_le _
theorem nf_behind : ∀ {l : List Pc} {b : Nat} {q : List Pr}, Nf b q l → ∀ p ∈ l, b ≤ p.fr
  | [], _, _, _, p, hp => by cases hp
  | z :: l, b, q, h, p, hp => by
      obtain ⟨h1, h2, _, _, h5⟩ := h
      rcases List.mem_cons.1 hp with rfl | hp
      · exact h1
      · have := nf_behind h5 p hp
        omega
/-- The lists between two places change: in place, as it is done. -/
def changeP (fr to : Nat) (f : List Pr → List Pr) (l : List Pc) : List Pc :=
  l.take (firstP l fr - 1) ++ changedP fr to f ((l.drop (firstP l fr - 1)).take (min l.length (firstP l to + 1) - (firstP l fr - 1))) ++ l.drop (min l.length (firstP l to + 1))
end Go.Proofs.Ytgiogmbopiblmaa
namespace Go.Proofs.Ytgiogmbopiblmaa

section
variable {fr to : Nat} {f : List Pr → List Pr}
theorem changed_high {M0 B : List Pc} {x : Pc} (hft : fr ≤ to) (h : Nf 0 [] ((M0 ++ [x]) ++ B)) (hx : to < x.to) : changedP fr to f ((M0 ++ [x]) ++ B) = changedP fr to f (M0 ++ [x]) ++ B := by
  obtain ⟨hM, hB⟩ := Nf.app.1 h
  rw [lastE_app] at hB
  have hx2 := (Nf.snoc.1 hM).2.2
  have hi := chg_fold (f := f) hft _ hM
  have e0 : chgFold fr to f (M0 ++ [x]) ([], fr) = chgStep fr to f (chgFold fr to f M0 ([], fr)) x := chgFold_app M0 [x] ([], fr)
  obtain ⟨h1, h2⟩ := step_over (fr := fr) (f := f) (st := chgFold fr to f M0 ([], fr)) hx hx2.1 hx2.2.1
  rw [← e0] at h1 h2
  have hne : (chgFold fr to f (M0 ++ [x]) ([], fr)).1 ≠ [] := fun e => by
    rw [e] at h1
    injection h1 with _ h1
    exact hx2.2.1 h1.symm
  have hn : Nf 0 [] ((chgFold fr to f (M0 ++ [x]) ([], fr)).1 ++ B) := Nf.app.2 ⟨hi.nf, by rw [h1]; exact hB⟩
  have hf := fold_high (f := f) hft B _ _ h2 hn hne fun p hp => by
    have := nf_behind hB p hp
    simp only [lastE] at this
    omega
  unfold changedP
  rw [chgFold_app, hf]
  simp only []
  rw [fillP_skip (by omega), fillP_skip (by omega)]
theorem changed_low {A M : List Pc} {m : Pc} (hft : fr ≤ to) (h : Nf 0 [] (A ++ m :: M)) (hA : ∀ p ∈ A, p.to ≤ fr) (hm : m.to ≤ fr) : changedP fr to f (A ++ m :: M) = A ++ changedP fr to f (m :: M) := by
  have h2 : Nf 0 [] ((A ++ [m]) ++ M) := by simpa using h
  have hAm := (Nf.app.1 h2).1
  have hm1 := Nf.snoc.1 hAm
  have e1 := fold_low (f := f) hft (A ++ [m]) [] (by simpa using hAm) (fun p hp => by
    rcases List.mem_append.1 hp with hp | hp
    · exact hA p hp
    · have : p = m := by simpa using hp
      exact this ▸ hm)
  have e2 := fold_low (f := f) hft [m] [] ⟨Nat.zero_le _, hm1.2.2.1, hm1.2.2.2.1, fun _ => hm1.2.2.2.1, trivial⟩ (fun p hp => by
    have : p = m := by simpa using hp
    exact this ▸ hm)
  obtain ⟨e3, e4⟩ := fold_pre (fr := fr) (to := to) (f := f) (A := A) M [m] fr (by simp)
  unfold changedP
  rw [show A ++ m :: M = (A ++ [m]) ++ M by simp, chgFold_app, e1, show m :: M = [m] ++ M from rfl, chgFold_app, e2]
  simp only [List.nil_append]
  rw [e3]
  exact fillP_app e4
/-- What is done in place is what would be done to all pieces. -/
theorem change_eq {l : List Pc} (hft : fr ≤ to) (h : Nf 0 [] l) : changeP fr to f l = changedP fr to f l := by
  have g1 := firstP_le l fr
  have g2 := firstP_le l to
  have g3 := firstP_mono l hft
  have g4 := firstP_low l fr
  have g5 := firstP_at l to
  unfold changeP
  obtain ⟨i, hi⟩ : ∃ i, i = firstP l fr - 1 := ⟨_, rfl⟩
  obtain ⟨k, hk⟩ : ∃ k, k = min l.length (firstP l to + 1) := ⟨_, rfl⟩
  rw [← hi, ← hk]
  have hd : l.drop i = (l.drop i).take (k - i) ++ l.drop k := by
    have := List.take_append_drop (k - i) (l.drop i)
    rw [List.drop_drop, show i + (k - i) = k by omega] at this
    exact this.symm
  have hl : l = l.take i ++ ((l.drop i).take (k - i) ++ l.drop k) := by rw [← hd, List.take_append_drop]
  have hright : changedP fr to f (l.drop i) = changedP fr to f ((l.drop i).take (k - i)) ++ l.drop k := by
    by_cases hB : k < l.length
    · have hx := List.getElem?_eq_getElem (l := l) (i := firstP l to) (by omega)
      obtain ⟨x, hx2⟩ : ∃ x, l[firstP l to]? = some x := ⟨_, hx⟩
      have hto := g5 x hx2
      have hM : (l.drop i).take (k - i) = (l.take (firstP l to)).drop i ++ [x] := by
        rw [← List.drop_take, show k = firstP l to + 1 by omega, List.take_add_one, hx2]
        rw [List.drop_append]
        simp only [List.length_take]
        rw [show i - min (firstP l to) l.length = 0 by omega]
        rfl
      have hn : Nf (lastE 0 [] (l.take i)).1 (lastE 0 [] (l.take i)).2 (l.drop i) := by
        rw [← List.take_append_drop i l] at h
        exact (Nf.app.1 h).2
      have hn0 : Nf 0 [] (l.drop i) := hn.empty (Nat.zero_le _)
      rw [hd, hM] at hn0
      rw [hM]
      conv => lhs; rw [hd, hM]
      exact changed_high hft hn0 hto
    · have : l.drop k = [] := List.drop_eq_nil_of_le (by omega)
      rw [hd, this, List.append_nil, List.append_nil, List.take_take, Nat.min_self]
  by_cases h0 : i = 0
  · rw [h0] at hright ⊢
    rw [List.take_zero, List.nil_append, ← hright]
    rfl
  · have hm1 : i < l.length := by omega
    obtain ⟨m, hm⟩ : ∃ m, l[i]? = some m := ⟨_, List.getElem?_eq_getElem hm1⟩
    have hdm : l.drop i = m :: l.drop (i + 1) := by
      rw [List.drop_eq_getElem_cons hm1]
      rw [List.getElem?_eq_getElem hm1] at hm
      injection hm with hm
      rw [hm]
    have hmto : m.to ≤ fr := by
      refine g4 m (List.mem_of_getElem? (i := i) ?_)
      rw [List.getElem?_take_of_lt (by omega)]
      exact hm
    have hA : ∀ p ∈ l.take i, p.to ≤ fr := fun p hp => g4 p (by
      rw [show l.take i = (l.take (firstP l fr)).take i by rw [List.take_take, show min i (firstP l fr) = i by omega]] at hp
      exact List.mem_of_mem_take hp)
    have hn : Nf 0 [] (l.take i ++ m :: l.drop (i + 1)) := by
      rw [← hdm, List.take_append_drop]
      exact h
    have e := changed_low (f := f) hft hn hA hmto
    rw [← hdm, List.take_append_drop, hright] at e
    rw [e, List.append_assoc]
end
theorem change_law {fr to : Nat} (f : List Pr → List Pr) {l : List Pc} (h : Nf 0 [] l) (hft : fr ≤ to) : Nf 0 [] (changeP fr to f l) ∧ ∀ x, den (changeP fr to f l) x = tgt fr to f (den l) x := by
  rw [change_eq hft h]
  exact changed_law f h hft
/-! ### Moved pieces -/
def insStep (at_ n : Nat) (out : List Pc) (x : Pc) : List Pc :=
  if at_ < x.to then addP (addP out x.fr (min x.to at_) x.pr) (max x.fr at_ + n) (x.to + n) x.pr else addP out x.fr (min x.to at_) x.pr
def insP (at_ n : Nat) (l : List Pc) : List Pc := l.foldl (insStep at_ n) []
def delStep (fr to : Nat) (out : List Pc) (x : Pc) : List Pc := addP (addP out x.fr (min x.to fr) x.pr) (max x.fr to - (to - fr)) (x.to - (to - fr)) x.pr
def delP (fr to : Nat) (l : List Pc) : List Pc := l.foldl (delStep fr to) []
set_option maxHeartbeats 4000000 in
theorem ins_inv (at_ n : Nat) (l : List Pc) : Nf 0 [] l → Nf 0 [] (insP at_ n l) ∧ endP (insP at_ n l) ≤ (if endP l ≤ at_ then endP l else endP l + n) ∧ ∀ y, den (insP at_ n l) y = if y < at_ then den l y else if y < at_ + n then [] else den l (y - n) := by
  refine snoc_ind (P := fun l => Nf 0 [] l → Nf 0 [] (insP at_ n l) ∧ endP (insP at_ n l) ≤ (if endP l ≤ at_ then endP l else endP l + n) ∧ ∀ y, den (insP at_ n l) y = if y < at_ then den l y else if y < at_ + n then [] else den l (y - n)) ?_ ?_ l
  · intro _
    refine ⟨trivial, ?_, fun y => ?_⟩
    · show 0 ≤ _
      exact Nat.zero_le _
    · show [] = _
      simp [den]
  · intro l p ih hn
    obtain ⟨h1, h2, h4⟩ := ih (Nf.snoc.1 hn).1
    obtain ⟨-, k1, k2, k3, -⟩ := Nf.snoc.1 hn
    have hd := den_snoc hn
    have hE : endP (l ++ [p]) = p.to := endP_snoc l p
    have hdl : ∀ x, endP l ≤ x → den l x = [] := fun x hx => den_high (Nf.snoc.1 hn).1 hx
    have e0 : insP at_ n (l ++ [p]) = insStep at_ n (insP at_ n l) p := by unfold insP; rw [List.foldl_append]; rfl
    rw [e0, hE]
    obtain ⟨out, hout⟩ : ∃ o, o = insP at_ n l := ⟨_, rfl⟩
    rw [← hout] at h1 h2 h4 ⊢
    have h2' := h2
    obtain ⟨a1, a2, -, a4⟩ := addP_law (a := p.fr) (b := min p.to at_) (q := p.pr) h1 (fun _ => by split at h2' <;> omega)
    obtain ⟨o1, ho1⟩ : ∃ o, o = addP out p.fr (min p.to at_) p.pr := ⟨_, rfl⟩
    rw [← ho1] at a1 a2 a4
    unfold insStep
    rw [← ho1]
    by_cases ht : at_ < p.to
    · rw [if_pos ht]
      obtain ⟨d1, d2, -, d3⟩ := addP_law (a := max p.fr at_ + n) (b := p.to + n) (q := p.pr) a1 (fun _ => by split at h2' <;> omega)
      refine ⟨d1, by split at h2' <;> split <;> omega, fun y => ?_⟩
      simp only [d3, a4, h4, hd]
      by_cases c1 : y < at_
      · by_cases c2 : y < endP l
        · rw [if_neg (by omega), if_neg (by omega), if_pos c1, if_pos c1, if_pos c2]
        · rw [hdl y (by omega)]
          repeat' split
          all_goals first | rfl | omega | (exfalso; omega)
      · by_cases c2 : y < at_ + n
        · repeat' split
          all_goals first | rfl | omega | (exfalso; omega)
        · by_cases c3 : y - n < endP l
          · repeat' split
            all_goals first | rfl | omega | (exfalso; omega)
          · rw [hdl (y - n) (by omega)]
            repeat' split
            all_goals first | rfl | omega | (exfalso; omega)
    · rw [if_neg ht]
      refine ⟨a1, by split at h2' <;> split <;> omega, fun y => ?_⟩
      simp only [a4, h4, hd]
      by_cases c1 : y < at_
      · by_cases c2 : y < endP l
        · rw [if_neg (by omega), if_pos c1, if_pos c1, if_pos c2]
        · rw [hdl y (by omega)]
          repeat' split
          all_goals first | rfl | omega | (exfalso; omega)
      · by_cases c2 : y < at_ + n
        · repeat' split
          all_goals first | rfl | omega | (exfalso; omega)
        · rw [hdl (y - n) (by omega)]
          repeat' split
          all_goals first | rfl | omega | (exfalso; omega)
set_option maxHeartbeats 4000000 in
theorem del_inv (fr to : Nat) (hft : fr ≤ to) (l : List Pc) : Nf 0 [] l → Nf 0 [] (delP fr to l) ∧ endP (delP fr to l) ≤ (if endP l ≤ fr then endP l else max fr (endP l - (to - fr))) ∧ ∀ y, den (delP fr to l) y = if y < fr then den l y else den l (y + (to - fr)) := by
  refine snoc_ind (P := fun l => Nf 0 [] l → Nf 0 [] (delP fr to l) ∧ endP (delP fr to l) ≤ (if endP l ≤ fr then endP l else max fr (endP l - (to - fr))) ∧ ∀ y, den (delP fr to l) y = if y < fr then den l y else den l (y + (to - fr))) ?_ ?_ l
  · intro _
    refine ⟨trivial, ?_, fun y => ?_⟩
    · show 0 ≤ _
      exact Nat.zero_le _
    · show [] = _
      simp [den]
  · intro l p ih hn
    obtain ⟨h1, h2, h4⟩ := ih (Nf.snoc.1 hn).1
    obtain ⟨-, k1, k2, k3, -⟩ := Nf.snoc.1 hn
    have hd := den_snoc hn
    have hE : endP (l ++ [p]) = p.to := endP_snoc l p
    have hdl : ∀ x, endP l ≤ x → den l x = [] := fun x hx => den_high (Nf.snoc.1 hn).1 hx
    have e0 : delP fr to (l ++ [p]) = delStep fr to (delP fr to l) p := by unfold delP; rw [List.foldl_append]; rfl
    rw [e0, hE]
    obtain ⟨out, hout⟩ : ∃ o, o = delP fr to l := ⟨_, rfl⟩
    rw [← hout] at h1 h2 h4 ⊢
    have h2' := h2
    obtain ⟨a1, a2, -, a4⟩ := addP_law (a := p.fr) (b := min p.to fr) (q := p.pr) h1 (fun _ => by split at h2' <;> omega)
    obtain ⟨o1, ho1⟩ : ∃ o, o = addP out p.fr (min p.to fr) p.pr := ⟨_, rfl⟩
    rw [← ho1] at a1 a2 a4
    unfold delStep
    rw [← ho1]
    obtain ⟨d1, d2, -, d3⟩ := addP_law (a := max p.fr to - (to - fr)) (b := p.to - (to - fr)) (q := p.pr) a1 (fun _ => by split at h2' <;> omega)
    refine ⟨d1, by split at h2' <;> split <;> omega, fun y => ?_⟩
    simp only [d3, a4, h4, hd]
    by_cases c1 : y < fr
    · by_cases c2 : y < endP l
      · rw [if_neg (by omega), if_neg (by omega), if_pos c1, if_pos c1, if_pos c2]
      · rw [hdl y (by omega)]
        repeat' split
        all_goals first | rfl | omega | (exfalso; omega)
    · by_cases c3 : y + (to - fr) < endP l
      · repeat' split
        all_goals first | rfl | omega | (exfalso; omega)
      · rw [hdl (y + (to - fr)) (by omega)]
        repeat' split
        all_goals first | rfl | omega | (exfalso; omega)
theorem den_snoc2 {l : List Pc} {p : Pc} (h : Nf 0 [] (l ++ [p])) (x : Nat) : den (l ++ [p]) x = if p.fr ≤ x ∧ x < p.to then p.pr else den l x := by
  obtain ⟨h1, h2, h3, -, -⟩ := Nf.snoc.1 h
  rw [den_snoc h]
  by_cases c : x < endP l
  · rw [if_pos c, if_neg (by omega)]
  · rw [if_neg c, den_high h1 (by unfold endP at c; omega)]
/-! ### What lies between two places -/
def cutStep (fr to : Nat) (out : List Pc) (x : Pc) : List Pc := if max x.fr fr < min x.to to then out ++ [⟨max x.fr fr, min x.to to, x.pr⟩] else out
def cutP (fr to : Nat) (l : List Pc) : List Pc := l.foldl (cutStep fr to) []
theorem cut_inv (fr to : Nat) (l : List Pc) : Nf 0 [] l → Nf 0 [] (cutP fr to l) ∧ (endP l ≤ fr → cutP fr to l = []) ∧ (fr < endP l → endP l < to → lastE 0 [] (cutP fr to l) = lastE 0 [] l) ∧ endP (cutP fr to l) ≤ endP l ∧ ∀ y, den (cutP fr to l) y = if fr ≤ y ∧ y < to then den l y else [] := by
  refine snoc_ind (P := fun l => Nf 0 [] l → Nf 0 [] (cutP fr to l) ∧ (endP l ≤ fr → cutP fr to l = []) ∧ (fr < endP l → endP l < to → lastE 0 [] (cutP fr to l) = lastE 0 [] l) ∧ endP (cutP fr to l) ≤ endP l ∧ ∀ y, den (cutP fr to l) y = if fr ≤ y ∧ y < to then den l y else []) ?_ ?_ l
  · intro _
    refine ⟨trivial, fun _ => rfl, fun h => absurd h (by show ¬ fr < 0; omega), Nat.le_refl _, fun y => ?_⟩
    show [] = _
    simp [den]
  · intro l p ih hn
    obtain ⟨h1, h2, h3, h5, h4⟩ := ih (Nf.snoc.1 hn).1
    obtain ⟨-, k1, k2, k3, k4⟩ := Nf.snoc.1 hn
    have hd := den_snoc hn
    have hE : endP (l ++ [p]) = p.to := endP_snoc l p
    have hdl : ∀ x, endP l ≤ x → den l x = [] := fun x hx => den_high (Nf.snoc.1 hn).1 hx
    have e0 : cutP fr to (l ++ [p]) = cutStep fr to (cutP fr to l) p := by unfold cutP; rw [List.foldl_append]; rfl
    rw [e0, hE]
    unfold cutStep
    by_cases hab : max p.fr fr < min p.to to
    · rw [if_pos hab]
      have hn2 : Nf 0 [] (cutP fr to l ++ [⟨max p.fr fr, min p.to to, p.pr⟩]) := by
        refine Nf.snoc.2 ⟨h1, ?_, hab, k3, ?_⟩
        · show _ ≤ max p.fr fr
          omega
        · intro e
          have e : max p.fr fr = endP (cutP fr to l) := e
          show p.pr ≠ _
          by_cases hf : endP l ≤ fr
          · rw [h2 hf]
            exact k3
          · have := h3 (by omega) (by omega)
            rw [this]
            refine k4 ?_
            unfold endP at e ⊢
            rw [this] at e
            unfold endP at hf k1
            omega
      refine ⟨hn2, fun h => absurd h (by omega), fun _ h => ?_, by rw [endP_snoc]; simp only []; omega, fun y => ?_⟩
      · rw [lastE_app, lastE_app]
        simp only [lastE]
        rw [show min p.to to = p.to by omega]
      · rw [den_snoc2 hn2]
        simp only [h4, hd]
        by_cases c1 : y < endP l
        · repeat' split
          all_goals first | rfl | omega | (exfalso; omega)
        · rw [hdl y (by omega)]
          repeat' split
          all_goals first | rfl | omega | (exfalso; omega)
    · rw [if_neg hab]
      refine ⟨h1, fun h => h2 (by omega), fun h g => by omega, by omega, fun y => ?_⟩
      simp only [h4, hd]
      by_cases c1 : y < endP l
      · rw [if_pos c1]
      · rw [if_neg c1, hdl y (by omega)]
        repeat' split
        all_goals first | rfl | omega | (exfalso; omega)
end Go.Proofs.Ytgiogmbopiblmaa
namespace Go.Proofs.Ytgiogmbopiblmaa

/-- A list with a property. -/
def withP : List Pr → Pr → List Pr
  | [], x => [x]
  | y :: l, x => if y.1 < x.1 then y :: withP l x else if y.1 = x.1 then x :: l else x :: y :: l
/-- A list without a name. -/
def withoutP (l : List Pr) (n : Int) : List Pr := l.filter fun y => decide (y.1 ≠ n)
/-- The value of a name. -/
def getP (l : List Pr) (n : Int) : Option (Int × Int) := (l.find? fun y => decide (y.1 = n)).map (·.2)
/-- Names in ascending order. -/
def Asc17 (l : List Pr) : Prop := l.Pairwise fun a b => a.1 < b.1
theorem withP_mem {x : Pr} : ∀ {l : List Pr} {y : Pr}, y ∈ withP l x → y = x ∨ y ∈ l
  | [], y, h => by simp [withP] at h; exact .inl h
  | z :: l, y, h => by
      unfold withP at h
      split at h
      · rcases List.mem_cons.1 h with rfl | h
        · exact .inr (List.mem_cons_self ..)
        · rcases withP_mem h with rfl | h
          · exact .inl rfl
          · exact .inr (List.mem_cons_of_mem _ h)
      · split at h
        · rcases List.mem_cons.1 h with rfl | h
          · exact .inl rfl
          · exact .inr (List.mem_cons_of_mem _ h)
        · rcases List.mem_cons.1 h with rfl | h
          · exact .inl rfl
          · exact .inr h
theorem withP_asc {x : Pr} : ∀ {l : List Pr}, Asc17 l → Asc17 (withP l x)
  | [], _ => by simp [withP, Asc17]
  | z :: l, h => by
      obtain ⟨h1, h2⟩ := List.pairwise_cons.1 h
      unfold withP
      split
      · rename_i hz
        refine List.pairwise_cons.2 ⟨fun y hy => ?_, withP_asc h2⟩
        rcases withP_mem hy with rfl | hy
        · exact hz
        · exact h1 y hy
      · split
        · rename_i hz hz2
          exact List.pairwise_cons.2 ⟨fun y hy => by have := h1 y hy; omega, h2⟩
        · rename_i hz hz2
          refine List.pairwise_cons.2 ⟨fun y hy => ?_, h⟩
          rcases List.mem_cons.1 hy with rfl | hy
          · omega
          · have := h1 y hy
            omega
theorem withP_ne (l : List Pr) (x : Pr) : withP l x ≠ [] := by
  cases l with
  | nil => simp [withP]
  | cons z l =>
    unfold withP
    split
    · simp
    · split <;> simp
theorem withP_len (x : Pr) : ∀ l : List Pr, l.length ≤ (withP l x).length ∧ (withP l x).length ≤ l.length + 1
  | [] => by simp [withP]
  | z :: l => by
      have := withP_len x l
      unfold withP
      split
      · simp; omega
      · split <;> simp
theorem withoutP_asc {l : List Pr} (n : Int) (h : Asc17 l) : Asc17 (withoutP l n) := h.sublist List.filter_sublist
theorem getP_with {x : Pr} (n : Int) : ∀ {l : List Pr}, Asc17 l → getP (withP l x) n = if n = x.1 then some x.2 else getP l n
  | [], _ => by
      by_cases h : n = x.1
      · simp [withP, getP, h]
      · have h2 : ¬ x.1 = n := fun e => h e.symm
        simp [withP, getP, h, h2]
  | z :: l, ha => by
      obtain ⟨h1, h2⟩ := List.pairwise_cons.1 ha
      have ih := getP_with (x := x) n h2
      unfold withP
      split
      · rename_i hz
        by_cases hn : z.1 = n
        · rw [if_neg (by omega)]
          simp [getP, hn]
        · have e1 : getP (z :: withP l x) n = getP (withP l x) n := by simp [getP, hn]
          have e2 : getP (z :: l) n = getP l n := by simp [getP, hn]
          rw [e1, e2, ih]
      · split
        · rename_i hz hz2
          by_cases hn : n = x.1
          · rw [if_pos hn]
            simp [getP, hn]
          · rw [if_neg hn]
            have e1 : ¬ x.1 = n := fun e => hn e.symm
            have e2 : ¬ z.1 = n := by omega
            simp [getP, e1, e2]
        · rename_i hz hz2
          by_cases hn : n = x.1
          · rw [if_pos hn]
            simp [getP, hn]
          · rw [if_neg hn]
            have : ¬ x.1 = n := fun e => hn e.symm
            simp [getP, this]
theorem getP_without (n m : Int) : ∀ l : List Pr, getP (withoutP l m) n = if n = m then none else getP l n
  | [] => by simp [withoutP, getP]
  | z :: l => by
      have ih := getP_without n m l
      unfold withoutP at ih ⊢
      by_cases hz : z.1 = m
      · rw [List.filter_cons_of_neg (by simp [hz]), ih]
        by_cases hn : n = m
        · rw [if_pos hn, if_pos hn]
        · rw [if_neg hn, if_neg hn]
          have : ¬ z.1 = n := by omega
          simp [getP, this]
      · rw [List.filter_cons_of_pos (by simp [hz])]
        by_cases hzn : z.1 = n
        · rw [if_neg (by omega)]
          simp [getP, hzn]
        · have e1 : ∀ t : List Pr, getP (z :: t) n = getP t n := fun t => by simp [getP, hzn]
          rw [e1, e1, ih]
theorem getP_nil (n : Int) : getP [] n = none := rfl
/-! ### Boundaries -/
def bnds (P : List Pc) : List Nat := P.flatMap fun p => [p.fr, p.to]
theorem den_const : ∀ {P : List Pc} {b i : Nat}, b ≤ i → (∀ c ∈ bnds P, ¬ (b < c ∧ c ≤ i)) → den P b = den P i
  | [], _, _, _, _ => rfl
  | p :: P, b, i, hbi, h => by
      have h1 := h p.fr (by simp [bnds])
      have h2 := h p.to (by simp [bnds])
      have ih := den_const (P := P) hbi fun c hc => h c (by
        unfold bnds at hc ⊢
        rw [List.flatMap_cons]
        exact List.mem_append_right _ hc)
      unfold den
      by_cases hp : p.fr ≤ b ∧ b < p.to
      · rw [if_pos hp, if_pos (by omega)]
      · rw [if_neg hp, if_neg (by omega)]
        exact ih
theorem bnds_ge : ∀ {P : List Pc} {b : Nat} {q : List Pr}, Nf b q P → ∀ c ∈ bnds P, b ≤ c
  | [], _, _, _, c, hc => by simp [bnds] at hc
  | p :: P, b, q, h, c, hc => by
      obtain ⟨h1, h2, _, _, h5⟩ := h
      unfold bnds at hc
      rw [List.flatMap_cons] at hc
      rcases List.mem_append.1 hc with hc | hc
      · simp at hc
        omega
      · have := bnds_ge h5 c hc
        omega
theorem bnds_asc : ∀ {P : List Pc} {b : Nat} {q : List Pr}, Nf b q P → (bnds P).Pairwise (· ≤ ·)
  | [], _, _, _ => by simp [bnds]
  | p :: P, b, q, h => by
      obtain ⟨h1, h2, _, _, h5⟩ := h
      unfold bnds
      rw [List.flatMap_cons]
      refine List.pairwise_append.2 ⟨by simp; omega, bnds_asc h5, fun x hx y hy => ?_⟩
      have := bnds_ge h5 y hy
      simp at hx
      omega
/-- What a character at any place has. -/
def denI (P : List Pc) (x : Int) : List Pr := if x < 0 then [] else den P x.toNat
/-- The next place behind one at which a comparison of lists fails. -/
def nextP (same : List Pr → List Pr → Bool) (P : List Pc) (at_ most : Int) : Int :=
  match (bnds P).find? fun (b : Nat) => decide (at_ < (b : Int)) && decide ((b : Int) < most) && !same (denI P at_) (den P b) with
  | some b => (b : Int)
  | none => most
theorem den_zero {P : List Pc} (h : ∀ p ∈ P, 1 ≤ p.fr) : den P 0 = [] := by
  induction P with
  | nil => rfl
  | cons p P ih =>
    have := h p (List.mem_cons_self ..)
    unfold den
    rw [if_neg (by omega)]
    exact ih fun q hq => h q (List.mem_cons_of_mem _ hq)
theorem last_bnd (P : List Pc) (a i : Nat) : (∃ b ∈ bnds P, a < b ∧ b ≤ i ∧ ∀ c ∈ bnds P, ¬ (b < c ∧ c ≤ i)) ∨ ∀ c ∈ bnds P, ¬ (a < c ∧ c ≤ i) := by
  generalize bnds P = L
  induction L with
  | nil => exact .inr fun c hc => by cases hc
  | cons z L ih =>
    rcases ih with ⟨b, hb, h1, h2, h3⟩ | h
    · by_cases hz : b < z ∧ z ≤ i
      · refine .inl ⟨z, List.mem_cons_self .., by omega, hz.2, fun c hc => ?_⟩
        rcases List.mem_cons.1 hc with rfl | hc
        · omega
        · have := h3 c hc
          omega
      · refine .inl ⟨b, List.mem_cons_of_mem _ hb, h1, h2, fun c hc => ?_⟩
        rcases List.mem_cons.1 hc with rfl | hc
        · exact hz
        · exact h3 c hc
    · by_cases hz : a < z ∧ z ≤ i
      · refine .inl ⟨z, List.mem_cons_self .., hz.1, hz.2, fun c hc => ?_⟩
        rcases List.mem_cons.1 hc with rfl | hc
        · omega
        · have := h c hc
          omega
      · refine .inr fun c hc => ?_
        rcases List.mem_cons.1 hc with rfl | hc
        · exact hz
        · exact h c hc
theorem find_first {p : Nat → Bool} : ∀ {L : List Nat} {b : Nat}, L.Pairwise (· ≤ ·) → L.find? p = some b → b ∈ L ∧ p b = true ∧ ∀ c ∈ L, c < b → p c = false
  | [], b, _, h => by simp at h
  | z :: L, b, ha, h => by
      obtain ⟨h1, h2⟩ := List.pairwise_cons.1 ha
      rw [List.find?_cons] at h
      cases hz : p z with
      | true =>
        rw [hz] at h
        simp only [Option.some.injEq] at h
        subst h
        refine ⟨List.mem_cons_self .., hz, fun c hc hlt => ?_⟩
        rcases List.mem_cons.1 hc with rfl | hc
        · omega
        · have := h1 c hc
          omega
      | false =>
        rw [hz] at h
        obtain ⟨g1, g2, g3⟩ := find_first h2 h
        refine ⟨List.mem_cons_of_mem _ g1, g2, fun c hc hlt => ?_⟩
        rcases List.mem_cons.1 hc with rfl | hc
        · exact hz
        · exact g3 c hc hlt
/-- The law of the next place. -/
theorem next_law {same : List Pr → List Pr → Bool} (hs : ∀ l, same l l = true) {P : List Pc} (hn : Nf 0 [] P) (h1 : ∀ p ∈ P, 1 ≤ p.fr) (at_ most : Int) :
    (nextP same P at_ most = most ∨ (at_ < nextP same P at_ most ∧ nextP same P at_ most < most ∧ 1 ≤ nextP same P at_ most ∧ nextP same P at_ most ∈ (bnds P).map (fun b : Nat => (b : Int)) ∧ same (denI P at_) (denI P (nextP same P at_ most)) = false)) ∧
    ∀ i : Nat, at_ < (i : Int) → (i : Int) < most → (i : Int) < nextP same P at_ most → same (denI P at_) (den P i) = true := by
  have hb1 : ∀ c ∈ bnds P, 1 ≤ c := fun c hc => by
    unfold bnds at hc
    obtain ⟨p, hp, hc2⟩ := List.mem_flatMap.1 hc
    have := h1 p hp
    obtain ⟨A, B, rfl⟩ := List.append_of_mem hp
    have h2 := (Nf.app.1 hn).2.2.1
    simp at hc2
    rcases hc2 with e | e <;> omega
  -- every place that no bad boundary lies ahead of is alike
  have key : ∀ i : Nat, at_ < (i : Int) → (∀ c ∈ bnds P, at_ < (c : Int) → c ≤ i → same (denI P at_) (den P c) = true) → same (denI P at_) (den P i) = true := by
    intro i hi hc
    by_cases h0 : at_ < 0
    · have e0 : denI P at_ = [] := if_pos h0
      rcases last_bnd P 0 i with ⟨b, hb, g1, g2, g3⟩ | g
      · rw [← den_const g2 g3]
        exact hc b hb (by omega) g2
      · rw [← den_const (Nat.zero_le i) g, den_zero h1, e0]
        exact hs []
    · obtain ⟨a, rfl⟩ : ∃ a : Nat, at_ = (a : Int) := ⟨at_.toNat, by omega⟩
      have e0 : denI P (a : Int) = den P a := by unfold denI; rw [if_neg h0, Int.toNat_natCast]
      rcases last_bnd P a i with ⟨b, hb, g1, g2, g3⟩ | g
      · rw [← den_const g2 g3]
        exact hc b hb (by omega) g2
      · rw [← den_const (by omega) g, e0]
        exact hs _
  unfold nextP
  cases hf : (bnds P).find? fun (b : Nat) => decide (at_ < (b : Int)) && decide ((b : Int) < most) && !same (denI P at_) (den P b) with
  | some b =>
    obtain ⟨g1, g2, g3⟩ := find_first (bnds_asc hn) hf
    simp only [Bool.and_eq_true, decide_eq_true_eq, Bool.not_eq_true'] at g2
    have hb := hb1 b g1
    refine ⟨.inr ⟨g2.1.1, g2.1.2, by simp only []; omega, List.mem_map.2 ⟨b, g1, rfl⟩, ?_⟩, fun i hi hm hlt => ?_⟩
    · show same _ (denI P (b : Int)) = false
      unfold denI
      rw [if_neg (show ¬ (b : Int) < 0 by omega), Int.toNat_natCast]
      exact g2.2
    · simp only at hlt
      refine key i hi fun c hc hac hci => ?_
      have := g3 c hc (by omega)
      simp only [Bool.and_eq_false_iff, decide_eq_false_iff_not, Bool.not_eq_false'] at this
      rcases this with (h | h) | h
      · omega
      · omega
      · exact h
  | none =>
    refine ⟨.inl rfl, fun i hi hm _ => ?_⟩
    refine key i hi fun c hc hac hci => ?_
    have := List.find?_eq_none.1 hf c hc
    simp only [Bool.and_eq_true, decide_eq_true_eq, Bool.not_eq_true', not_and, Bool.not_eq_false, and_imp] at this
    exact this hac (by omega)
end Go.Proofs.Ytgiogmbopiblmaa
namespace Go.Proofs.Ytgiogmbopiblmaa

/-- Pieces in form, in range, each list in order, with names that may be, of at most N. -/
structure Good (P : List Pc) (N : Nat) : Prop where
  nf : Nf 0 [] P
  ran : ∀ x, x < 1 ∨ 65537 ≤ x → den P x = []
  asc : ∀ x, Asc17 (den P x)
  nam : ∀ x, ∀ y ∈ den P x, (0 : Int) ≤ y.1
  len : ∀ x, (den P x).length ≤ N
theorem Nf.den_mem : ∀ {P : List Pc} {b : Nat} {q : List Pr}, Nf b q P → ∀ p ∈ P, b ≤ p.fr ∧ p.fr < p.to ∧ p.pr ≠ [] ∧ ∀ x, p.fr ≤ x → x < p.to → den P x = p.pr
  | [], _, _, _, p, h => by cases h
  | z :: P, b, q, hn, p, h => by
      obtain ⟨h1, h2, h3, h4, h5⟩ := hn
      rcases List.mem_cons.1 h with rfl | h
      · refine ⟨h1, h2, h3, fun x g1 g2 => ?_⟩
        unfold den
        rw [if_pos ⟨g1, g2⟩]
      · obtain ⟨g1, g2, g3, g4⟩ := Nf.den_mem h5 p h
        refine ⟨by omega, g2, g3, fun x e1 e2 => ?_⟩
        unfold den
        rw [if_neg (by omega)]
        exact g4 x e1 e2
theorem den_from : ∀ {P : List Pc} {x : Nat}, den P x ≠ [] → ∃ p ∈ P, p.fr ≤ x ∧ x < p.to ∧ den P x = p.pr
  | [], _, h => absurd rfl h
  | z :: P, x, h => by
      unfold den at h ⊢
      by_cases hz : z.fr ≤ x ∧ x < z.to
      · rw [if_pos hz]
        exact ⟨z, List.mem_cons_self .., hz.1, hz.2, rfl⟩
      · rw [if_neg hz] at h ⊢
        obtain ⟨p, hp, h1⟩ := den_from h
        exact ⟨p, List.mem_cons_of_mem _ hp, h1⟩
theorem Nf.count : ∀ {P : List Pc} {b : Nat} {q : List Pr}, Nf b q P → b + P.length ≤ (lastE b q P).1
  | [], _, _, _ => Nat.le_refl _
  | z :: P, b, q, hn => by
      obtain ⟨h1, h2, h3, h4, h5⟩ := hn
      have := Nf.count h5
      simp only [lastE, List.length_cons]
      omega
section
variable {P : List Pc} {N : Nat}
theorem Good.mem (h : Good P N) {p : Pc} (hp : p ∈ P) : 1 ≤ p.fr ∧ p.fr < p.to ∧ p.to ≤ 65537 ∧ p.pr ≠ [] ∧ Asc17 p.pr ∧ (∀ y ∈ p.pr, (0 : Int) ≤ y.1) ∧ p.pr.length ≤ N := by
  obtain ⟨_, h1, h2, h3⟩ := h.nf.den_mem p hp
  have e := h3 p.fr (Nat.le_refl _) h1
  refine ⟨?_, h1, ?_, h2, e ▸ h.asc p.fr, e ▸ h.nam p.fr, e ▸ h.len p.fr⟩
  · rcases Nat.lt_or_ge p.fr 1 with g | g
    · rw [h.ran _ (.inl g)] at e
      exact absurd e.symm h2
    · exact g
  · rcases Nat.lt_or_ge 65537 p.to with g | g
    · have e2 := h3 (p.to - 1) (by omega) (by omega)
      rw [h.ran _ (.inr (by omega))] at e2
      exact absurd e2.symm h2
    · exact g
theorem Good.ends (h : Good P N) : endP P ≤ 65537 := by
  rcases snoc_cases P with rfl | ⟨k, p, rfl⟩
  · exact Nat.zero_le _
  · rw [endP_snoc]
    exact (h.mem (p := p) (by simp)).2.2.1
theorem Good.size (h : Good P N) : P.length ≤ 65537 := by
  have h1 := h.nf.count
  have h2 := h.ends
  unfold endP at h2
  omega
theorem Good.mono (h : Good P N) {M : Nat} (hm : N ≤ M) : Good P M := ⟨h.nf, h.ran, h.asc, h.nam, fun x => Nat.le_trans (h.len x) hm⟩
theorem Good.nil (N : Nat) : Good [] N := ⟨trivial, fun _ _ => rfl, fun _ => List.Pairwise.nil, fun _ _ h => (by cases h), fun _ => Nat.zero_le _⟩
/-- A list that may be one of a character. -/
structure OkL (q : List Pr) (N : Nat) : Prop where
  asc : Asc17 q
  nam : ∀ y ∈ q, (0 : Int) ≤ y.1
  len : q.length ≤ N
theorem Good.at_ (h : Good P N) (x : Nat) : OkL (den P x) N := ⟨h.asc x, h.nam x, h.len x⟩
theorem OkL.nil (N : Nat) : OkL [] N := ⟨List.Pairwise.nil, fun _ h => (by cases h), Nat.zero_le _⟩
theorem Good.of (hn : Nf 0 [] P) (hr : ∀ x, x < 1 ∨ 65537 ≤ x → den P x = []) (ho : ∀ x, OkL (den P x) N) : Good P N := ⟨hn, hr, fun x => (ho x).asc, fun x => (ho x).nam, fun x => (ho x).len⟩
theorem OkL.with_ {q : List Pr} (h : OkL q N) {x : Pr} (hx : 0 ≤ x.1) : OkL (withP q x) (N + 1) := by
  refine ⟨withP_asc h.asc, fun y hy => ?_, Nat.le_trans (withP_len x q).2 (Nat.succ_le_succ h.len)⟩
  rcases withP_mem hy with rfl | hy
  · exact hx
  · exact h.nam y hy
theorem OkL.without {q : List Pr} (h : OkL q N) (n : Int) : OkL (withoutP q n) N := by
  refine ⟨withoutP_asc n h.asc, fun y hy => h.nam y (List.mem_filter.1 hy).1, Nat.le_trans (List.length_filter_le _ _) h.len⟩
theorem Good.change (h : Good P N) {fr en M : Nat} (h1 : 1 ≤ fr) (h2 : fr ≤ en) (h3 : en ≤ 65537) {f : List Pr → List Pr} (hf : ∀ q, OkL q N → OkL (f q) M) (hNM : N ≤ M) : Good (changeP fr en f P) M := by
  obtain ⟨g1, g2⟩ := change_law f h.nf h2
  refine Good.of g1 (fun x hx => ?_) fun x => ?_
  · rw [g2]
    unfold tgt
    rw [if_neg (by omega)]
    exact h.ran x hx
  · rw [g2]
    unfold tgt
    split
    · exact hf _ (h.at_ x)
    · exact ⟨h.asc x, h.nam x, Nat.le_trans (h.len x) hNM⟩
theorem Good.ins (h : Good P N) {a n : Nat} (h1 : 1 ≤ a) (h2 : endP P ≤ a ∨ endP P + n ≤ 65537) : Good (insP a n P) N := by
  obtain ⟨g1, g2, g3⟩ := ins_inv a n P h.nf
  have hz : ∀ x, endP P ≤ x → den P x = [] := fun x hx => den_high h.nf hx
  have he := h.ends
  refine Good.of g1 (fun x hx => ?_) fun x => ?_
  · rw [g3]
    rcases hx with hx | hx
    · rw [if_pos (by omega)]
      exact h.ran x (.inl hx)
    · split
      · exact h.ran x (.inr hx)
      · split
        · rfl
        · rcases h2 with h2 | h2
          · exact hz _ (by omega)
          · exact hz _ (by omega)
  · rw [g3]
    split
    · exact h.at_ x
    · split
      · exact OkL.nil N
      · exact h.at_ _
theorem Good.del (h : Good P N) {fr en : Nat} (h1 : 1 ≤ fr) (h2 : fr ≤ en) : Good (delP fr en P) N := by
  obtain ⟨g1, g2, g3⟩ := del_inv fr en h2 P h.nf
  refine Good.of g1 (fun x hx => ?_) fun x => ?_
  · rw [g3]
    split
    · exact h.ran x hx
    · exact h.ran _ (by omega)
  · rw [g3]
    split
    · exact h.at_ x
    · exact h.at_ _
end
end Go.Proofs.Ytgiogmbopiblmaa
