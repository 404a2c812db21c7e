/- Changes of pieces: plain laws. No condition but those written. -/
import Derived.Test.YtgiogmbopiblmaaPra
namespace Go.Proofs.Ytgiogmbopiblmaa

/-- Between a place and an end, where there is something between. -/
def fillP (q : List Pr) (out : List Pc) (p e : Nat) : List Pc := if p < e then addP out p e q else out
theorem fillP_law {l : List Pc} {a b : Nat} {q : List Pr} (h : Nf 0 [] l) (he : a < b → endP l ≤ a) : Nf 0 [] (fillP q l a b) ∧ endP (fillP q l a b) ≤ max (endP l) b ∧ ∀ x, den (fillP q l a b) x = if a ≤ x ∧ x < b then q else den l x := by
  unfold fillP
  by_cases hab : a < b
  · rw [if_pos hab]
    have := addP_law (q := q) h he
    exact ⟨this.1, this.2.1, this.2.2.2⟩
  · rw [if_neg hab]
    refine ⟨h, by omega, fun x => ?_⟩
    rw [if_neg (by omega)]
theorem fillP_skip {l : List Pc} {a b : Nat} {q : List Pr} (h : ¬ a < b) : fillP q l a b = l := if_neg h
theorem fillP_app {A out : List Pc} {a b : Nat} {q : List Pr} (h : out ≠ []) : fillP q (A ++ out) a b = A ++ fillP q out a b := by
  unfold fillP
  split
  · exact addP_app h
  · rfl
theorem fillP_ne {l : List Pc} {a b : Nat} {q : List Pr} (h : l ≠ []) : fillP q l a b ≠ [] := by
  unfold fillP
  split
  · exact addP_ne h
  · exact h
/-- One piece gone over, when the lists between two places change. -/
def chgA (fr : Nat) (st : List Pc × Nat) (p : Pc) : List Pc × Nat := (addP st.1 p.fr (min p.to fr) p.pr, st.2)
def chgB (fr to : Nat) (f : List Pr → List Pr) (st : List Pc × Nat) (p : Pc) : List Pc × Nat :=
  if max p.fr fr < min p.to to then (addP (fillP (f []) st.1 st.2 (max p.fr fr)) (max p.fr fr) (min p.to to) (f p.pr), min p.to to) else st
def chgC (to : Nat) (f : List Pr → List Pr) (st : List Pc × Nat) (p : Pc) : List Pc × Nat :=
  if to < p.to then (addP (fillP (f []) st.1 st.2 to) (max p.fr to) p.to p.pr, if st.2 < to then to else st.2) else st
def chgStep (fr to : Nat) (f : List Pr → List Pr) (st : List Pc × Nat) (p : Pc) : List Pc × Nat := chgC to f (chgB fr to f (chgA fr st p) p) p
def chgFold (fr to : Nat) (f : List Pr → List Pr) (l : List Pc) (st : List Pc × Nat) : List Pc × Nat := l.foldl (chgStep fr to f) st
def changedP (fr to : Nat) (f : List Pr → List Pr) (l : List Pc) : List Pc := fillP (f []) (chgFold fr to f l ([], fr)).1 (chgFold fr to f l ([], fr)).2 to
/-- What a character has when the lists between two places change. -/
def tgt (fr to : Nat) (f : List Pr → List Pr) (d : Nat → List Pr) (x : Nat) : List Pr := if fr ≤ x ∧ x < to then f (d x) else d x
/-- Behind pieces l: what has been written, and how far. -/
structure ChgInv (fr to : Nat) (f : List Pr → List Pr) (l : List Pc) (st : List Pc × Nat) : Prop where
  nf : Nf 0 [] st.1
  en : endP st.1 ≤ endP l
  at_ : st.2 = max fr (min (endP l) to)
  dn : ∀ x, den st.1 x = if x < endP l then tgt fr to f (den l) x else []
theorem den_snoc {l : List Pc} {p : Pc} (h : Nf 0 [] (l ++ [p])) (x : Nat) : den (l ++ [p]) x = if x < endP l then den l x else if p.fr ≤ x ∧ x < p.to then p.pr else [] := by
  rw [den_app h]
  rfl
set_option maxHeartbeats 4000000 in
theorem chg_step {fr to : Nat} {f : List Pr → List Pr} {l : List Pc} {p : Pc} {st : List Pc × Nat} (hn : Nf 0 [] (l ++ [p])) (hft : fr ≤ to) (h : ChgInv fr to f l st) : ChgInv fr to f (l ++ [p]) (chgStep fr to f st p) := by
  obtain ⟨out, at_⟩ := st
  obtain ⟨h1, h2, h3, h4⟩ := h
  simp only at h1 h2 h3 h4
  obtain ⟨-, k1, k2, k3, -⟩ := Nf.snoc.1 hn
  have hd := den_snoc hn
  have hE : endP (l ++ [p]) = p.to := endP_snoc l p
  have hdl : ∀ x, endP l ≤ x → den l x = [] := fun x hx => den_high (Nf.snoc.1 hn).1 hx
  obtain ⟨E, hEl⟩ : ∃ E, E = endP l := ⟨_, rfl⟩
  rw [← hEl] at *
  obtain ⟨a1, a2, -, a4⟩ := addP_law (a := p.fr) (b := min p.to fr) (q := p.pr) h1 (fun _ => by omega)
  obtain ⟨o1, ho1⟩ : ∃ o, o = addP out p.fr (min p.to fr) p.pr := ⟨_, rfl⟩
  rw [← ho1] at a1 a2 a4
  have e1 : chgA fr (out, at_) p = (o1, at_) := by unfold chgA; rw [ho1]
  unfold chgStep
  rw [e1]
  by_cases hab : max p.fr fr < min p.to to
  · have e2 : chgB fr to f (o1, at_) p = (addP (fillP (f []) o1 at_ (max p.fr fr)) (max p.fr fr) (min p.to to) (f p.pr), min p.to to) := if_pos hab
    obtain ⟨b1, b2, b3⟩ := fillP_law (a := at_) (b := max p.fr fr) (q := f []) a1 (fun _ => by omega)
    obtain ⟨o2, ho2⟩ : ∃ o, o = fillP (f []) o1 at_ (max p.fr fr) := ⟨_, rfl⟩
    rw [← ho2] at b1 b2 b3 e2
    obtain ⟨c1, c2, -, c3⟩ := addP_law (a := max p.fr fr) (b := min p.to to) (q := f p.pr) b1 (fun _ => by omega)
    obtain ⟨o3, ho3⟩ : ∃ o, o = addP o2 (max p.fr fr) (min p.to to) (f p.pr) := ⟨_, rfl⟩
    rw [← ho3] at c1 c2 c3 e2
    rw [e2]
    by_cases ht : to < p.to
    · have e3 : chgC to f (o3, min p.to to) p = (addP (fillP (f []) o3 (min p.to to) to) (max p.fr to) p.to p.pr, if min p.to to < to then to else min p.to to) := if_pos ht
      rw [e3, fillP_skip (by omega)]
      obtain ⟨d1, d2, -, d3⟩ := addP_law (a := max p.fr to) (b := p.to) (q := p.pr) c1 (fun _ => by omega)
      refine ⟨d1, by rw [hE]; simp only []; omega, by rw [hE]; simp only []; split <;> omega, fun x => ?_⟩
      rw [hE]
      simp only [d3, c3, b3, a4, h4, tgt, hd]
      repeat' split
      all_goals first | rfl | omega | (exfalso; omega)
    · have e3 : chgC to f (o3, min p.to to) p = (o3, min p.to to) := if_neg ht
      rw [e3]
      refine ⟨c1, by rw [hE]; simp only []; omega, by rw [hE]; simp only []; omega, fun x => ?_⟩
      rw [hE]
      simp only [c3, b3, a4, h4, tgt, hd]
      repeat' split
      all_goals first | rfl | omega | (exfalso; omega)
  · have e2 : chgB fr to f (o1, at_) p = (o1, at_) := if_neg hab
    rw [e2]
    by_cases ht : to < p.to
    · have e3 : chgC to f (o1, at_) p = (addP (fillP (f []) o1 at_ to) (max p.fr to) p.to p.pr, if at_ < to then to else at_) := if_pos ht
      rw [e3]
      obtain ⟨b1, b2, b3⟩ := fillP_law (a := at_) (b := to) (q := f []) a1 (fun _ => by omega)
      obtain ⟨o2, ho2⟩ : ∃ o, o = fillP (f []) o1 at_ to := ⟨_, rfl⟩
      rw [← ho2] at b1 b2 b3 ⊢
      obtain ⟨d1, d2, -, d3⟩ := addP_law (a := max p.fr to) (b := p.to) (q := p.pr) b1 (fun _ => by omega)
      refine ⟨d1, by rw [hE]; simp only []; omega, by rw [hE]; simp only []; split <;> omega, fun x => ?_⟩
      rw [hE]
      simp only [d3, b3, a4, h4, tgt, hd]
      repeat' split
      all_goals first | rfl | omega | (exfalso; omega)
    · have e3 : chgC to f (o1, at_) p = (o1, at_) := if_neg ht
      rw [e3]
      refine ⟨a1, by rw [hE]; simp only []; omega, by rw [hE]; simp only []; omega, fun x => ?_⟩
      rw [hE]
      simp only [a4, h4, tgt, hd]
      repeat' split
      all_goals first | rfl | omega | (exfalso; omega)
theorem snoc_ind {α : Type} {P : List α → Prop} (h0 : P []) (h1 : ∀ l x, P l → P (l ++ [x])) (l : List α) : P l := by
  rw [← List.reverse_reverse l]
  induction l.reverse with
  | nil => exact h0
  | cons x t ih => rw [List.reverse_cons]; exact h1 _ _ ih
theorem chg_fold {fr to : Nat} {f : List Pr → List Pr} (hft : fr ≤ to) (l : List Pc) : Nf 0 [] l → ChgInv fr to f l (chgFold fr to f l ([], fr)) := by
  refine snoc_ind (P := fun l => Nf 0 [] l → ChgInv fr to f l (chgFold fr to f l ([], fr))) ?_ ?_ l
  · intro _
    refine ⟨trivial, Nat.le_refl _, ?_, fun x => ?_⟩
    · show fr = max fr (min 0 to)
      omega
    · rw [if_neg (show ¬ x < endP [] from Nat.not_lt_zero x)]
      rfl
  · intro l p ih h
    have := chg_step h hft (ih (Nf.snoc.1 h).1)
    unfold chgFold at this ⊢
    rw [List.foldl_append]
    exact this
theorem changed_law {fr to : Nat} (f : List Pr → List Pr) {l : List Pc} (h : Nf 0 [] l) (hft : fr ≤ to) : Nf 0 [] (changedP fr to f l) ∧ ∀ x, den (changedP fr to f l) x = tgt fr to f (den l) x := by
  obtain ⟨h1, h2, h3, h4⟩ := chg_fold (f := f) hft l h
  obtain ⟨b1, b2, b3⟩ := fillP_law (a := (chgFold fr to f l ([], fr)).2) (b := to) (q := f []) h1 (fun _ => by omega)
  refine ⟨b1, fun x => ?_⟩
  have hdl : endP l ≤ x → den l x = [] := fun hx => den_high h hx
  unfold changedP
  rw [b3, h4, h3]
  unfold tgt
  by_cases hx : endP l ≤ x
  · rw [hdl hx]
    repeat' split
    all_goals first | rfl | omega | (exfalso; omega)
  · repeat' split
    all_goals first | rfl | omega | (exfalso; omega)
/-! ### Only the pieces there and next to it -/
theorem addP_last {l : List Pc} {a b : Nat} {q : List Pr} (h : a < b) (hq : q ≠ []) : lastE 0 [] (addP l a b q) = (b, q) := by
  rcases snoc_cases l with rfl | ⟨k, p, rfl⟩
  · rw [addP_nil h hq]
    rfl
  · by_cases hj : p.to = a ∧ p.pr = q
    · rw [addP_join h hq hj.1 hj.2, lastE_app]
      rfl
    · rw [addP_more h hq hj, lastE_app]
      rfl
theorem addP_new {l : List Pc} {p : Pc} (h : Nf 0 [] (l ++ [p])) : addP l p.fr p.to p.pr = l ++ [p] := by
  obtain ⟨h1, h2, h3, h4, h5⟩ := Nf.snoc.1 h
  rcases snoc_cases l with rfl | ⟨k, z, rfl⟩
  · rw [addP_nil h3 h4]
    rfl
  · refine addP_more h3 h4 fun hj => ?_
    rw [endP_snoc, lastE_app] at h5
    exact h5 hj.1.symm hj.2.symm
section
variable {fr to : Nat} {f : List Pr → List Pr}
theorem chgFold_app (A B : List Pc) (st : List Pc × Nat) : chgFold fr to f (A ++ B) st = chgFold fr to f B (chgFold fr to f A st) := List.foldl_append ..
theorem step_low {out : List Pc} {p : Pc} (hft : fr ≤ to) (hp : p.to ≤ fr) (hn : Nf 0 [] (out ++ [p])) : chgStep fr to f (out, fr) p = (out ++ [p], fr) := by
  obtain ⟨_, _, h3, _, _⟩ := Nf.snoc.1 hn
  have e1 : chgA fr (out, fr) p = (out ++ [p], fr) := by
    unfold chgA
    rw [show min p.to fr = p.to by omega, addP_new hn]
  have e2 : chgB fr to f (out ++ [p], fr) p = (out ++ [p], fr) := if_neg (by omega)
  have e3 : chgC to f (out ++ [p], fr) p = (out ++ [p], fr) := if_neg (by omega)
  unfold chgStep
  rw [e1, e2, e3]
theorem fold_low (hft : fr ≤ to) : ∀ (A out : List Pc), Nf 0 [] (out ++ A) → (∀ p ∈ A, p.to ≤ fr) → chgFold fr to f A (out, fr) = (out ++ A, fr)
  | [], out, _, _ => by simp [chgFold]
  | p :: A, out, hn, hp => by
      have hn2 : Nf 0 [] ((out ++ [p]) ++ A) := by simpa using hn
      show chgFold fr to f A (chgStep fr to f (out, fr) p) = _
      rw [step_low hft (hp p (List.mem_cons_self ..)) (Nf.app.1 hn2).1, fold_low hft A (out ++ [p]) hn2 fun z hz => hp z (List.mem_cons_of_mem _ hz)]
      simp
theorem step_pre {A out : List Pc} {n : Nat} {p : Pc} (ho : out ≠ []) : chgStep fr to f (A ++ out, n) p = (A ++ (chgStep fr to f (out, n) p).1, (chgStep fr to f (out, n) p).2) ∧ (chgStep fr to f (out, n) p).1 ≠ [] := by
  have h1 : ∀ (o : List Pc) (n : Nat), o ≠ [] → chgA fr (A ++ o, n) p = (A ++ (chgA fr (o, n) p).1, (chgA fr (o, n) p).2) ∧ (chgA fr (o, n) p).1 ≠ [] := fun o n ho => by
    unfold chgA
    exact ⟨by simp only []; rw [addP_app ho], addP_ne ho⟩
  have h2 : ∀ (o : List Pc) (n : Nat), o ≠ [] → chgB fr to f (A ++ o, n) p = (A ++ (chgB fr to f (o, n) p).1, (chgB fr to f (o, n) p).2) ∧ (chgB fr to f (o, n) p).1 ≠ [] := fun o n ho => by
    unfold chgB
    split
    · exact ⟨by simp only []; rw [fillP_app ho, addP_app (fillP_ne ho)], addP_ne (fillP_ne ho)⟩
    · exact ⟨rfl, ho⟩
  have h3 : ∀ (o : List Pc) (n : Nat), o ≠ [] → chgC to f (A ++ o, n) p = (A ++ (chgC to f (o, n) p).1, (chgC to f (o, n) p).2) ∧ (chgC to f (o, n) p).1 ≠ [] := fun o n ho => by
    unfold chgC
    split
    · exact ⟨by simp only []; rw [fillP_app ho, addP_app (fillP_ne ho)], addP_ne (fillP_ne ho)⟩
    · exact ⟨rfl, ho⟩
  unfold chgStep
  obtain ⟨a1, a2⟩ := h1 out n ho
  rw [a1]
  obtain ⟨b1, b2⟩ := h2 (chgA fr (out, n) p).1 (chgA fr (out, n) p).2 a2
  rw [b1]
  obtain ⟨c1, c2⟩ := h3 (chgB fr to f (chgA fr (out, n) p) p).1 (chgB fr to f (chgA fr (out, n) p) p).2 b2
  exact ⟨c1, c2⟩
theorem fold_pre {A : List Pc} : ∀ (M out : List Pc) (n : Nat), out ≠ [] → chgFold fr to f M (A ++ out, n) = (A ++ (chgFold fr to f M (out, n)).1, (chgFold fr to f M (out, n)).2) ∧ (chgFold fr to f M (out, n)).1 ≠ []
  | [], out, n, ho => ⟨rfl, ho⟩
  | p :: M, out, n, ho => by
      obtain ⟨h1, h2⟩ := step_pre (fr := fr) (to := to) (f := f) (A := A) (n := n) (p := p) ho
      have := fold_pre (A := A) M (chgStep fr to f (out, n) p).1 (chgStep fr to f (out, n) p).2 h2
      show chgFold fr to f M (chgStep fr to f (A ++ out, n) p) = _ ∧ _
      rw [h1]
      exact this
theorem step_over {st : List Pc × Nat} {p : Pc} (hp : to < p.to) (hf : p.fr < p.to) (hq : p.pr ≠ []) : lastE 0 [] (chgStep fr to f st p).1 = (p.to, p.pr) ∧ to ≤ (chgStep fr to f st p).2 := by
  unfold chgStep chgC
  rw [if_pos hp]
  exact ⟨addP_last (by omega) hq, by simp only []; split <;> omega⟩
theorem fold_high (hft : fr ≤ to) : ∀ (B out : List Pc) (n : Nat), to ≤ n → Nf 0 [] (out ++ B) → out ≠ [] → (∀ p ∈ B, to < p.fr) → chgFold fr to f B (out, n) = (out ++ B, n)
  | [], out, n, _, _, _, _ => by simp [chgFold]
  | p :: B, out, n, hn, h, ho, hp => by
      have h2 : Nf 0 [] ((out ++ [p]) ++ B) := by simpa using h
      have hpf := hp p (List.mem_cons_self ..)
      have h3 := (Nf.snoc.1 (Nf.app.1 h2).1).2.2.1
      have e1 : chgA fr (out, n) p = (out, n) := by
        unfold chgA
        rw [addP_skip (.inl (by omega))]
      have e2 : chgB fr to f (out, n) p = (out, n) := if_neg (by omega)
      have e3 : chgC to f (out, n) p = (out ++ [p], n) := by
        unfold chgC
        rw [if_pos (by omega), fillP_skip (by simp only []; omega), show max p.fr to = p.fr by omega, addP_new (Nf.app.1 h2).1]
        simp only []
        rw [if_neg (by omega)]
      show chgFold fr to f B (chgStep fr to f (out, n) p) = _
      unfold chgStep
      rw [e1, e2, e3, fold_high hft B (out ++ [p]) n hn h2 (by simp) fun z hz => hp z (List.mem_cons_of_mem _ hz)]
      simp
end
/-- The index of the first piece that ends behind a place. -/
def firstP : List Pc → Nat → Nat
  | [], _ => 0
  | p :: l, x => if p.to ≤ x then firstP l x + 1 else 0
theorem firstP_le : ∀ (l : List Pc) (x : Nat), firstP l x ≤ l.length
  | [], _ => Nat.le_refl _
  | p :: l, x => by
      unfold firstP
      have := firstP_le l x
      split <;> simp <;> omega
theorem firstP_low : ∀ (l : List Pc) (x : Nat), ∀ p ∈ l.take (firstP l x), p.to ≤ x
  | [], _, p, hp => by simp at hp
  | z :: l, x, p, hp => by
      unfold firstP at hp
      split at hp
      · rename_i hz
        rw [List.take_succ_cons] at hp
        rcases List.mem_cons.1 hp with rfl | hp
        · exact hz
        · exact firstP_low l x p hp
      · simp at hp
theorem firstP_at : ∀ (l : List Pc) (x : Nat) (p : Pc), l[firstP l x]? = some p → x < p.to
  | [], _, p, hp => by simp at hp
  | z :: l, x, p, hp => by
      unfold firstP at hp
      split at hp
      · exact firstP_at l x p (by simpa using hp)
      · simp at hp
        subst hp
        omega
theorem firstP_mono : ∀ (l : List Pc) {x y : Nat}, x ≤ y → firstP l x ≤ firstP l y
  | [], _, _, _ => Nat.le_refl _
  | z :: l, x, y, h => by
      unfold firstP
      have := firstP_mono l h
      split
      · rw [if_pos (by omega)]
        omega
      · exact Nat.zero_le _
theorem nf_behind : ∀ {l : List Pc} {b : Nat} {q : List Pr}, Nf b q l → ∀ p ∈ l, b ≤ p.fr
  | [], _, _, _, p, hp => by cases hp
  | z :: l, b, q, h, p, hp => by
      obtain ⟨h1, h2, _, _, h5⟩ := h
      rcases List.mem_cons.1 hp with rfl | hp
      · exact h1
      · have := nf_behind h5 p hp
        omega
/-- The lists between two places change: in place, as it is done. -/
def changeP (fr to : Nat) (f : List Pr → List Pr) (l : List Pc) : List Pc :=
  l.take (firstP l fr - 1) ++ changedP fr to f ((l.drop (firstP l fr - 1)).take (min l.length (firstP l to + 1) - (firstP l fr - 1))) ++ l.drop (min l.length (firstP l to + 1))
end Go.Proofs.Ytgiogmbopiblmaa
