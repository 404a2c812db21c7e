/- Pieces changed in place, moved, cut: plain laws. No condition but those written. -/
import Derived.Test.YtgiogmbopiblmaaPrb
namespace Go.Proofs.Ytgiogmbopiblmaa

section
variable {fr to : Nat} {f : List Pr → List Pr}
theorem changed_high {M0 B : List Pc} {x : Pc} (hft : fr ≤ to) (h : Nf 0 [] ((M0 ++ [x]) ++ B)) (hx : to < x.to) : changedP fr to f ((M0 ++ [x]) ++ B) = changedP fr to f (M0 ++ [x]) ++ B := by
  obtain ⟨hM, hB⟩ := Nf.app.1 h
  rw [lastE_app] at hB
  have hx2 := (Nf.snoc.1 hM).2.2
  have hi := chg_fold (f := f) hft _ hM
  have e0 : chgFold fr to f (M0 ++ [x]) ([], fr) = chgStep fr to f (chgFold fr to f M0 ([], fr)) x := chgFold_app M0 [x] ([], fr)
  obtain ⟨h1, h2⟩ := step_over (fr := fr) (f := f) (st := chgFold fr to f M0 ([], fr)) hx hx2.1 hx2.2.1
  rw [← e0] at h1 h2
  have hne : (chgFold fr to f (M0 ++ [x]) ([], fr)).1 ≠ [] := fun e => by
    rw [e] at h1
    injection h1 with _ h1
    exact hx2.2.1 h1.symm
  have hn : Nf 0 [] ((chgFold fr to f (M0 ++ [x]) ([], fr)).1 ++ B) := Nf.app.2 ⟨hi.nf, by rw [h1]; exact hB⟩
  have hf := fold_high (f := f) hft B _ _ h2 hn hne fun p hp => by
    have := nf_behind hB p hp
    simp only [lastE] at this
    omega
  unfold changedP
  rw [chgFold_app, hf]
  simp only []
  rw [fillP_skip (by omega), fillP_skip (by omega)]
theorem changed_low {A M : List Pc} {m : Pc} (hft : fr ≤ to) (h : Nf 0 [] (A ++ m :: M)) (hA : ∀ p ∈ A, p.to ≤ fr) (hm : m.to ≤ fr) : changedP fr to f (A ++ m :: M) = A ++ changedP fr to f (m :: M) := by
  have h2 : Nf 0 [] ((A ++ [m]) ++ M) := by simpa using h
  have hAm := (Nf.app.1 h2).1
  have hm1 := Nf.snoc.1 hAm
  have e1 := fold_low (f := f) hft (A ++ [m]) [] (by simpa using hAm) (fun p hp => by
    rcases List.mem_append.1 hp with hp | hp
    · exact hA p hp
    · have : p = m := by simpa using hp
      exact this ▸ hm)
  have e2 := fold_low (f := f) hft [m] [] ⟨Nat.zero_le _, hm1.2.2.1, hm1.2.2.2.1, fun _ => hm1.2.2.2.1, trivial⟩ (fun p hp => by
    have : p = m := by simpa using hp
    exact this ▸ hm)
  obtain ⟨e3, e4⟩ := fold_pre (fr := fr) (to := to) (f := f) (A := A) M [m] fr (by simp)
  unfold changedP
  rw [show A ++ m :: M = (A ++ [m]) ++ M by simp, chgFold_app, e1, show m :: M = [m] ++ M from rfl, chgFold_app, e2]
  simp only [List.nil_append]
  rw [e3]
  exact fillP_app e4
/-- What is done in place is what would be done to all pieces. -/
theorem change_eq {l : List Pc} (hft : fr ≤ to) (h : Nf 0 [] l) : changeP fr to f l = changedP fr to f l := by
  have g1 := firstP_le l fr
  have g2 := firstP_le l to
  have g3 := firstP_mono l hft
  have g4 := firstP_low l fr
  have g5 := firstP_at l to
  unfold changeP
  obtain ⟨i, hi⟩ : ∃ i, i = firstP l fr - 1 := ⟨_, rfl⟩
  obtain ⟨k, hk⟩ : ∃ k, k = min l.length (firstP l to + 1) := ⟨_, rfl⟩
  rw [← hi, ← hk]
  have hd : l.drop i = (l.drop i).take (k - i) ++ l.drop k := by
    have := List.take_append_drop (k - i) (l.drop i)
    rw [List.drop_drop, show i + (k - i) = k by omega] at this
    exact this.symm
  have hl : l = l.take i ++ ((l.drop i).take (k - i) ++ l.drop k) := by rw [← hd, List.take_append_drop]
  have hright : changedP fr to f (l.drop i) = changedP fr to f ((l.drop i).take (k - i)) ++ l.drop k := by
    by_cases hB : k < l.length
    · have hx := List.getElem?_eq_getElem (l := l) (i := firstP l to) (by omega)
      obtain ⟨x, hx2⟩ : ∃ x, l[firstP l to]? = some x := ⟨_, hx⟩
      have hto := g5 x hx2
      have hM : (l.drop i).take (k - i) = (l.take (firstP l to)).drop i ++ [x] := by
        rw [← List.drop_take, show k = firstP l to + 1 by omega, List.take_add_one, hx2]
        rw [List.drop_append]
        simp only [List.length_take]
        rw [show i - min (firstP l to) l.length = 0 by omega]
        rfl
      have hn : Nf (lastE 0 [] (l.take i)).1 (lastE 0 [] (l.take i)).2 (l.drop i) := by
        rw [← List.take_append_drop i l] at h
        exact (Nf.app.1 h).2
      have hn0 : Nf 0 [] (l.drop i) := hn.empty (Nat.zero_le _)
      rw [hd, hM] at hn0
      rw [hM]
      conv => lhs; rw [hd, hM]
      exact changed_high hft hn0 hto
    · have : l.drop k = [] := List.drop_eq_nil_of_le (by omega)
      rw [hd, this, List.append_nil, List.append_nil, List.take_take, Nat.min_self]
  by_cases h0 : i = 0
  · rw [h0] at hright ⊢
    rw [List.take_zero, List.nil_append, ← hright]
    rfl
  · have hm1 : i < l.length := by omega
    obtain ⟨m, hm⟩ : ∃ m, l[i]? = some m := ⟨_, List.getElem?_eq_getElem hm1⟩
    have hdm : l.drop i = m :: l.drop (i + 1) := by
      rw [List.drop_eq_getElem_cons hm1]
      rw [List.getElem?_eq_getElem hm1] at hm
      injection hm with hm
      rw [hm]
    have hmto : m.to ≤ fr := by
      refine g4 m (List.mem_of_getElem? (i := i) ?_)
      rw [List.getElem?_take_of_lt (by omega)]
      exact hm
    have hA : ∀ p ∈ l.take i, p.to ≤ fr := fun p hp => g4 p (by
      rw [show l.take i = (l.take (firstP l fr)).take i by rw [List.take_take, show min i (firstP l fr) = i by omega]] at hp
      exact List.mem_of_mem_take hp)
    have hn : Nf 0 [] (l.take i ++ m :: l.drop (i + 1)) := by
      rw [← hdm, List.take_append_drop]
      exact h
    have e := changed_low (f := f) hft hn hA hmto
    rw [← hdm, List.take_append_drop, hright] at e
    rw [e, List.append_assoc]
end
theorem change_law {fr to : Nat} (f : List Pr → List Pr) {l : List Pc} (h : Nf 0 [] l) (hft : fr ≤ to) : Nf 0 [] (changeP fr to f l) ∧ ∀ x, den (changeP fr to f l) x = tgt fr to f (den l) x := by
  rw [change_eq hft h]
  exact changed_law f h hft
/-! ### Moved pieces -/
def insStep (at_ n : Nat) (out : List Pc) (x : Pc) : List Pc :=
  if at_ < x.to then addP (addP out x.fr (min x.to at_) x.pr) (max x.fr at_ + n) (x.to + n) x.pr else addP out x.fr (min x.to at_) x.pr
def insP (at_ n : Nat) (l : List Pc) : List Pc := l.foldl (insStep at_ n) []
def delStep (fr to : Nat) (out : List Pc) (x : Pc) : List Pc := addP (addP out x.fr (min x.to fr) x.pr) (max x.fr to - (to - fr)) (x.to - (to - fr)) x.pr
def delP (fr to : Nat) (l : List Pc) : List Pc := l.foldl (delStep fr to) []
set_option maxHeartbeats 4000000 in
theorem ins_inv (at_ n : Nat) (l : List Pc) : Nf 0 [] l → Nf 0 [] (insP at_ n l) ∧ endP (insP at_ n l) ≤ (if endP l ≤ at_ then endP l else endP l + n) ∧ ∀ y, den (insP at_ n l) y = if y < at_ then den l y else if y < at_ + n then [] else den l (y - n) := by
  refine snoc_ind (P := fun l => Nf 0 [] l → Nf 0 [] (insP at_ n l) ∧ endP (insP at_ n l) ≤ (if endP l ≤ at_ then endP l else endP l + n) ∧ ∀ y, den (insP at_ n l) y = if y < at_ then den l y else if y < at_ + n then [] else den l (y - n)) ?_ ?_ l
  · intro _
    refine ⟨trivial, ?_, fun y => ?_⟩
    · show 0 ≤ _
      exact Nat.zero_le _
    · show [] = _
      simp [den]
  · intro l p ih hn
    obtain ⟨h1, h2, h4⟩ := ih (Nf.snoc.1 hn).1
    obtain ⟨-, k1, k2, k3, -⟩ := Nf.snoc.1 hn
    have hd := den_snoc hn
    have hE : endP (l ++ [p]) = p.to := endP_snoc l p
    have hdl : ∀ x, endP l ≤ x → den l x = [] := fun x hx => den_high (Nf.snoc.1 hn).1 hx
    have e0 : insP at_ n (l ++ [p]) = insStep at_ n (insP at_ n l) p := by unfold insP; rw [List.foldl_append]; rfl
    rw [e0, hE]
    obtain ⟨out, hout⟩ : ∃ o, o = insP at_ n l := ⟨_, rfl⟩
    rw [← hout] at h1 h2 h4 ⊢
    have h2' := h2
    obtain ⟨a1, a2, -, a4⟩ := addP_law (a := p.fr) (b := min p.to at_) (q := p.pr) h1 (fun _ => by split at h2' <;> omega)
    obtain ⟨o1, ho1⟩ : ∃ o, o = addP out p.fr (min p.to at_) p.pr := ⟨_, rfl⟩
    rw [← ho1] at a1 a2 a4
    unfold insStep
    rw [← ho1]
    by_cases ht : at_ < p.to
    · rw [if_pos ht]
      obtain ⟨d1, d2, -, d3⟩ := addP_law (a := max p.fr at_ + n) (b := p.to + n) (q := p.pr) a1 (fun _ => by split at h2' <;> omega)
      refine ⟨d1, by split at h2' <;> split <;> omega, fun y => ?_⟩
      simp only [d3, a4, h4, hd]
      by_cases c1 : y < at_
      · by_cases c2 : y < endP l
        · rw [if_neg (by omega), if_neg (by omega), if_pos c1, if_pos c1, if_pos c2]
        · rw [hdl y (by omega)]
          repeat' split
          all_goals first | rfl | omega | (exfalso; omega)
      · by_cases c2 : y < at_ + n
        · repeat' split
          all_goals first | rfl | omega | (exfalso; omega)
        · by_cases c3 : y - n < endP l
          · repeat' split
            all_goals first | rfl | omega | (exfalso; omega)
          · rw [hdl (y - n) (by omega)]
            repeat' split
            all_goals first | rfl | omega | (exfalso; omega)
    · rw [if_neg ht]
      refine ⟨a1, by split at h2' <;> split <;> omega, fun y => ?_⟩
      simp only [a4, h4, hd]
      by_cases c1 : y < at_
      · by_cases c2 : y < endP l
        · rw [if_neg (by omega), if_pos c1, if_pos c1, if_pos c2]
        · rw [hdl y (by omega)]
          repeat' split
          all_goals first | rfl | omega | (exfalso; omega)
      · by_cases c2 : y < at_ + n
        · repeat' split
          all_goals first | rfl | omega | (exfalso; omega)
        · rw [hdl (y - n) (by omega)]
          repeat' split
          all_goals first | rfl | omega | (exfalso; omega)
set_option maxHeartbeats 4000000 in
theorem del_inv (fr to : Nat) (hft : fr ≤ to) (l : List Pc) : Nf 0 [] l → Nf 0 [] (delP fr to l) ∧ endP (delP fr to l) ≤ (if endP l ≤ fr then endP l else max fr (endP l - (to - fr))) ∧ ∀ y, den (delP fr to l) y = if y < fr then den l y else den l (y + (to - fr)) := by
  refine snoc_ind (P := fun l => Nf 0 [] l → Nf 0 [] (delP fr to l) ∧ endP (delP fr to l) ≤ (if endP l ≤ fr then endP l else max fr (endP l - (to - fr))) ∧ ∀ y, den (delP fr to l) y = if y < fr then den l y else den l (y + (to - fr))) ?_ ?_ l
  · intro _
    refine ⟨trivial, ?_, fun y => ?_⟩
    · show 0 ≤ _
      exact Nat.zero_le _
    · show [] = _
      simp [den]
  · intro l p ih hn
    obtain ⟨h1, h2, h4⟩ := ih (Nf.snoc.1 hn).1
    obtain ⟨-, k1, k2, k3, -⟩ := Nf.snoc.1 hn
    have hd := den_snoc hn
    have hE : endP (l ++ [p]) = p.to := endP_snoc l p
    have hdl : ∀ x, endP l ≤ x → den l x = [] := fun x hx => den_high (Nf.snoc.1 hn).1 hx
    have e0 : delP fr to (l ++ [p]) = delStep fr to (delP fr to l) p := by unfold delP; rw [List.foldl_append]; rfl
    rw [e0, hE]
    obtain ⟨out, hout⟩ : ∃ o, o = delP fr to l := ⟨_, rfl⟩
    rw [← hout] at h1 h2 h4 ⊢
    have h2' := h2
    obtain ⟨a1, a2, -, a4⟩ := addP_law (a := p.fr) (b := min p.to fr) (q := p.pr) h1 (fun _ => by split at h2' <;> omega)
    obtain ⟨o1, ho1⟩ : ∃ o, o = addP out p.fr (min p.to fr) p.pr := ⟨_, rfl⟩
    rw [← ho1] at a1 a2 a4
    unfold delStep
    rw [← ho1]
    obtain ⟨d1, d2, -, d3⟩ := addP_law (a := max p.fr to - (to - fr)) (b := p.to - (to - fr)) (q := p.pr) a1 (fun _ => by split at h2' <;> omega)
    refine ⟨d1, by split at h2' <;> split <;> omega, fun y => ?_⟩
    simp only [d3, a4, h4, hd]
    by_cases c1 : y < fr
    · by_cases c2 : y < endP l
      · rw [if_neg (by omega), if_neg (by omega), if_pos c1, if_pos c1, if_pos c2]
      · rw [hdl y (by omega)]
        repeat' split
        all_goals first | rfl | omega | (exfalso; omega)
    · by_cases c3 : y + (to - fr) < endP l
      · repeat' split
        all_goals first | rfl | omega | (exfalso; omega)
      · rw [hdl (y + (to - fr)) (by omega)]
        repeat' split
        all_goals first | rfl | omega | (exfalso; omega)
theorem den_snoc2 {l : List Pc} {p : Pc} (h : Nf 0 [] (l ++ [p])) (x : Nat) : den (l ++ [p]) x = if p.fr ≤ x ∧ x < p.to then p.pr else den l x := by
  obtain ⟨h1, h2, h3, -, -⟩ := Nf.snoc.1 h
  rw [den_snoc h]
  by_cases c : x < endP l
  · rw [if_pos c, if_neg (by omega)]
  · rw [if_neg c, den_high h1 (by unfold endP at c; omega)]
/-! ### What lies between two places -/
def cutStep (fr to : Nat) (out : List Pc) (x : Pc) : List Pc := if max x.fr fr < min x.to to then out ++ [⟨max x.fr fr, min x.to to, x.pr⟩] else out
def cutP (fr to : Nat) (l : List Pc) : List Pc := l.foldl (cutStep fr to) []
theorem cut_inv (fr to : Nat) (l : List Pc) : Nf 0 [] l → Nf 0 [] (cutP fr to l) ∧ (endP l ≤ fr → cutP fr to l = []) ∧ (fr < endP l → endP l < to → lastE 0 [] (cutP fr to l) = lastE 0 [] l) ∧ endP (cutP fr to l) ≤ endP l ∧ ∀ y, den (cutP fr to l) y = if fr ≤ y ∧ y < to then den l y else [] := by
  refine snoc_ind (P := fun l => Nf 0 [] l → Nf 0 [] (cutP fr to l) ∧ (endP l ≤ fr → cutP fr to l = []) ∧ (fr < endP l → endP l < to → lastE 0 [] (cutP fr to l) = lastE 0 [] l) ∧ endP (cutP fr to l) ≤ endP l ∧ ∀ y, den (cutP fr to l) y = if fr ≤ y ∧ y < to then den l y else []) ?_ ?_ l
  · intro _
    refine ⟨trivial, fun _ => rfl, fun h => absurd h (by show ¬ fr < 0; omega), Nat.le_refl _, fun y => ?_⟩
    show [] = _
    simp [den]
  · intro l p ih hn
    obtain ⟨h1, h2, h3, h5, h4⟩ := ih (Nf.snoc.1 hn).1
    obtain ⟨-, k1, k2, k3, k4⟩ := Nf.snoc.1 hn
    have hd := den_snoc hn
    have hE : endP (l ++ [p]) = p.to := endP_snoc l p
    have hdl : ∀ x, endP l ≤ x → den l x = [] := fun x hx => den_high (Nf.snoc.1 hn).1 hx
    have e0 : cutP fr to (l ++ [p]) = cutStep fr to (cutP fr to l) p := by unfold cutP; rw [List.foldl_append]; rfl
    rw [e0, hE]
    unfold cutStep
    by_cases hab : max p.fr fr < min p.to to
    · rw [if_pos hab]
      have hn2 : Nf 0 [] (cutP fr to l ++ [⟨max p.fr fr, min p.to to, p.pr⟩]) := by
        refine Nf.snoc.2 ⟨h1, ?_, hab, k3, ?_⟩
        · show _ ≤ max p.fr fr
          omega
        · intro e
          have e : max p.fr fr = endP (cutP fr to l) := e
          show p.pr ≠ _
          by_cases hf : endP l ≤ fr
          · rw [h2 hf]
            exact k3
          · have := h3 (by omega) (by omega)
            rw [this]
            refine k4 ?_
            unfold endP at e ⊢
            rw [this] at e
            unfold endP at hf k1
            omega
      refine ⟨hn2, fun h => absurd h (by omega), fun _ h => ?_, by rw [endP_snoc]; simp only []; omega, fun y => ?_⟩
      · rw [lastE_app, lastE_app]
        simp only [lastE]
        rw [show min p.to to = p.to by omega]
      · rw [den_snoc2 hn2]
        simp only [h4, hd]
        by_cases c1 : y < endP l
        · repeat' split
          all_goals first | rfl | omega | (exfalso; omega)
        · rw [hdl y (by omega)]
          repeat' split
          all_goals first | rfl | omega | (exfalso; omega)
    · rw [if_neg hab]
      refine ⟨h1, fun h => h2 (by omega), fun h g => by omega, by omega, fun y => ?_⟩
      simp only [h4, hd]
      by_cases c1 : y < endP l
      · rw [if_pos c1]
      · rw [if_neg c1, hdl y (by omega)]
        repeat' split
        all_goals first | rfl | omega | (exfalso; omega)
end Go.Proofs.Ytgiogmbopiblmaa
