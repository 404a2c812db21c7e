/- A move over an expression, case by case, and that it moves; the symbol around an index: plain laws. No condition but those written. -/
import Derived.Test.YtdojcgefiekleaaDoorSys
namespace Go.Proofs.YtdojcgefiekleaaDoor
open Go.RowKit

section
variable {T : Tb} {L : List Nat} {a b c : Int} {n i j : Nat} {opens : List Nat}
theorem fwd_end (h : gapA T L i = j) (hj : j = L.length) : fwd T a b c L (n + 1) opens i = (0, a, ((opens.head?.getD j : Nat) : Int)) := by
  subst h
  rw [fwd.eq_def]
  simp only [hj, if_true]
theorem fwd_close0 (h : gapA T L i = j) (hj : j ≠ L.length) (hk : T.at_ L j = 5) : fwd T a b c L (n + 1) [] i = (0, b, (j : Int)) := by
  subst h
  rw [fwd.eq_def]
  simp only [hj, hk, if_true, if_false]
theorem fwd_close_bad {o : Nat} (h : gapA T L i = j) (hj : j ≠ L.length) (hk : T.at_ L j = 5) (hm : ((L.getD j 0 : Nat) : Int) ≠ T.mate ((L.getD o 0 : Nat) : Int)) : fwd T a b c L (n + 1) (o :: opens) i = (0, b, (j : Int)) := by
  subst h
  rw [fwd.eq_def]
  simp only [hj, hk, if_true, if_false]
  rw [if_pos hm]
theorem fwd_close_last {o : Nat} (h : gapA T L i = j) (hj : j ≠ L.length) (hk : T.at_ L j = 5) (hm : ((L.getD j 0 : Nat) : Int) = T.mate ((L.getD o 0 : Nat) : Int)) : fwd T a b c L (n + 1) [o] i = (j + 1, 0, 0) := by
  subst h
  rw [fwd.eq_def]
  simp only [hj, hk, if_true, if_false]
  rw [if_neg (by simpa using hm)]
theorem fwd_close {o : Nat} (h : gapA T L i = j) (hj : j ≠ L.length) (hk : T.at_ L j = 5) (hm : ((L.getD j 0 : Nat) : Int) = T.mate ((L.getD o 0 : Nat) : Int)) (hr : opens ≠ []) : fwd T a b c L (n + 1) (o :: opens) i = fwd T a b c L n opens (j + 1) := by
  subst h
  rw [fwd.eq_def]
  simp only [hj, hk, if_true, if_false]
  rw [if_neg (by simpa using hm), if_neg hr]
theorem fwd_deep (h : gapA T L i = j) (hj : j ≠ L.length) (hk : T.at_ L j = 4) (hl : 200 ≤ opens.length) : fwd T a b c L (n + 1) opens i = (0, c, (j : Int)) := by
  subst h
  rw [fwd.eq_def]
  simp only []
  rw [if_neg hj, if_neg (show ¬ T.at_ L (gapA T L i) = 5 by omega), if_pos hk, if_pos hl]
theorem fwd_open (h : gapA T L i = j) (hj : j ≠ L.length) (hk : T.at_ L j = 4) (hl : opens.length < 200) : fwd T a b c L (n + 1) opens i = fwd T a b c L n (j :: opens) (j + 1) := by
  subst h
  have hl' : ¬ 200 ≤ opens.length := by omega
  rw [fwd.eq_def]
  simp only []
  rw [if_neg hj, if_neg (show ¬ T.at_ L (gapA T L i) = 5 by omega), if_pos hk, if_neg hl']
theorem fwd_str_bad (h : gapA T L i = j) (hj : j ≠ L.length) (hk : T.at_ L j = 6) (hq : quoA T L j = none) : fwd T a b c L (n + 1) opens i = (0, a, (j : Int)) := by
  subst h
  rw [fwd.eq_def]
  simp only []
  rw [if_neg hj, if_neg (show ¬ T.at_ L (gapA T L i) = 5 by omega), if_neg (show ¬ T.at_ L (gapA T L i) = 4 by omega), if_pos hk, hq]
  try rfl
theorem fwd_str_last {e : Nat} (h : gapA T L i = j) (hj : j ≠ L.length) (hk : T.at_ L j = 6) (hq : quoA T L j = some e) : fwd T a b c L (n + 1) [] i = (e, 0, 0) := by
  subst h
  rw [fwd.eq_def]
  simp only []
  rw [if_neg hj, if_neg (show ¬ T.at_ L (gapA T L i) = 5 by omega), if_neg (show ¬ T.at_ L (gapA T L i) = 4 by omega), if_pos hk, hq]
  try rfl
theorem fwd_str {e : Nat} (h : gapA T L i = j) (hj : j ≠ L.length) (hk : T.at_ L j = 6) (hq : quoA T L j = some e) (ho : opens ≠ []) : fwd T a b c L (n + 1) opens i = fwd T a b c L n opens e := by
  subst h
  rw [fwd.eq_def]
  simp only []
  rw [if_neg hj, if_neg (show ¬ T.at_ L (gapA T L i) = 5 by omega), if_neg (show ¬ T.at_ L (gapA T L i) = 4 by omega), if_pos hk, hq]
  simp only [ho, if_false]
theorem fwd_name_last (h : gapA T L i = j) (hj : j ≠ L.length) (h4 : T.at_ L j ≠ 4) (h5 : T.at_ L j ≠ 5) (h6 : T.at_ L j ≠ 6) : fwd T a b c L (n + 1) [] i = (nameA T L j, 0, 0) := by
  subst h
  rw [fwd.eq_def]
  simp only [hj, h4, h5, h6, if_false, if_true]
theorem fwd_name (h : gapA T L i = j) (hj : j ≠ L.length) (h4 : T.at_ L j ≠ 4) (h5 : T.at_ L j ≠ 5) (h6 : T.at_ L j ≠ 6) (ho : opens ≠ []) : fwd T a b c L (n + 1) opens i = fwd T a b c L n opens (nameA T L j) := by
  subst h
  rw [fwd.eq_def]
  simp only [hj, h4, h5, h6, if_false, ho]
theorem at_range (h : T.Ok) (j : Nat) : 0 ≤ T.at_ L j ∧ T.at_ L j ≤ 10 := ⟨(h.range _).1, (h.range _).2.1⟩
/-- Behind the separators, and no bracket, no string: a name has at least one character. -/
theorem name_more (h : T.Ok) (hj : j < L.length) (h8 : T.at_ L j ≠ 8) (hw : ¬ (T.at_ L j = 3 ∨ T.at_ L j = 9 ∨ T.at_ L j = 0 ∨ T.at_ L j = 10)) (h4 : T.at_ L j ≠ 4) (h5 : T.at_ L j ≠ 5) (h6 : T.at_ L j ≠ 6) : j < nameA T L j := by
  have hr := at_range (L := L) h j
  by_cases h7 : T.at_ L j = 7
  · by_cases h1 : j + 1 < L.length
    · rw [nameA_esc h1 h7]
      have := nameA_le (T := T) (L := L) (i := j + 2) (by omega)
      omega
    · rw [nameA_last (by omega) h7]
      omega
  · rw [nameA_step hj (by omega)]
    have := nameA_le (T := T) (L := L) (i := j + 1) (by omega)
    omega
/-- A move forward that answers an index moves. -/
theorem fwd_more (h : T.Ok) (ha : a ≠ 0) (hb : b ≠ 0) (hc : c ≠ 0) : ∀ {n : Nat} {opens : List Nat} {i : Nat}, i ≤ L.length → L.length < n + i → (fwd T a b c L n opens i).2.1 = 0 → i < (fwd T a b c L n opens i).1 ∧ (fwd T a b c L n opens i).1 ≤ L.length ∧ (fwd T a b c L n opens i).2.2 = 0 := by
  intro n
  induction n with
  | zero => intro opens i h1 h2; omega
  | succ n ih =>
      intro opens i h1 h2
      have hg := gapA_le (T := T) (L := L) h1
      have hs := gapA_spec (T := T) (L := L) h1
      obtain ⟨j, hj⟩ : ∃ j, gapA T L i = j := ⟨_, rfl⟩
      rw [hj] at hg hs
      by_cases e : j = L.length
      · rw [fwd_end hj e]
        intro h; exact absurd h ha
      · have hl : j < L.length := by omega
        have hs := hs hl
        by_cases h5 : T.at_ L j = 5
        · cases opens with
          | nil => rw [fwd_close0 hj e h5]; intro h; exact absurd h hb
          | cons o r =>
              by_cases hm : ((L.getD j 0 : Nat) : Int) = T.mate ((L.getD o 0 : Nat) : Int)
              · by_cases hr : r = []
                · subst hr
                  rw [fwd_close_last hj e h5 hm]
                  intro _
                  exact ⟨by simp; omega, by simp; omega, rfl⟩
                · rw [fwd_close hj e h5 hm hr]
                  intro h
                  have := ih (opens := r) (i := j + 1) (by omega) (by omega) h
                  omega
              · rw [fwd_close_bad hj e h5 hm]; intro h; exact absurd h hb
        · by_cases h4 : T.at_ L j = 4
          · by_cases h200 : 200 ≤ opens.length
            · rw [fwd_deep hj e h4 h200]; intro h; exact absurd h hc
            · rw [fwd_open hj e h4 (by omega)]
              intro h
              have := ih (opens := j :: opens) (i := j + 1) (by omega) (by omega) h
              omega
          · by_cases h6 : T.at_ L j = 6
            · cases hq : quoA T L j with
              | none => rw [fwd_str_bad hj e h6 hq]; intro h; exact absurd h ha
              | some q =>
                  have hq' := hq
                  rw [quoA_eq] at hq'
                  have := quoF_le hq'
                  cases opens with
                  | nil =>
                      rw [fwd_str_last hj e h6 hq]
                      intro _
                      exact ⟨by simp; omega, by simp; omega, rfl⟩
                  | cons o r =>
                      rw [fwd_str hj e h6 hq (by simp)]
                      intro h
                      have := ih (opens := o :: r) (i := q) (by omega) (by omega) h
                      omega
            · have := name_more h hl hs.1 hs.2 h4 h5 h6
              have hn := nameA_le (T := T) (L := L) (i := j) (by omega)
              cases opens with
              | nil =>
                  rw [fwd_name_last hj e h4 h5 h6]
                  intro _
                  exact ⟨by simp; omega, by simp; omega, rfl⟩
              | cons o r =>
                  rw [fwd_name hj e h4 h5 h6 (by simp)]
                  intro h
                  have := ih (opens := o :: r) (i := nameA T L j) (by omega) (by omega) h
                  omega
end
end Go.Proofs.YtdojcgefiekleaaDoor
namespace Go.Proofs.YtdojcgefiekleaaDoor
open Go.RowKit

/-- The levels and the top level's last expression, when an expression ends in the innermost. -/
def laidIn (S : List Lvl) (top v : Int) : List Lvl × Int := match S with
  | [] => ([], v)
  | x :: r => ((x.1, x.2.1, v) :: r, top)
/-- The answer at the end of the text. -/
def bckOut (a b : Int) (S : List Lvl) (top bar : Int) : Ans := match S with
  | [] => if 0 ≤ top then (top.toNat, 0, 0) else if 0 ≤ bar then (0, b, bar) else (0, a, 0)
  | x :: _ => if 0 ≤ x.2.2 then (x.2.2.toNat, 0, 0) else (0, b, x.1)
section
variable {T : Tb} {L : List Nat} {a b c d : Int} {n i j : Nat} {S : List Lvl} {top bar : Int}
theorem bck_end (h : L.length ≤ i) : bck T a b c d L (n + 1) S top bar i = bckOut a b S top bar := by
  rw [bck.eq_def]
  simp only []
  rw [if_pos h]
  rfl
theorem bck_gap (h : i < L.length) (hk : T.at_ L i = 3 ∨ T.at_ L i = 9 ∨ T.at_ L i = 0 ∨ T.at_ L i = 10) : bck T a b c d L (n + 1) S top bar i = bck T a b c d L n S top bar (i + 1) := by
  rw [bck.eq_def]
  simp only []
  rw [if_neg (show ¬ L.length ≤ i by omega), if_pos hk]
theorem bck_cmt (h : i < L.length) (hk : T.at_ L i = 8) (he : ¬ (cmtA T L i = L.length ∧ T.at_ L (cmtA T L i - 1) ≠ 9)) : bck T a b c d L (n + 1) S top bar i = bck T a b c d L n S top bar (cmtA T L i) := by
  rw [bck.eq_def]
  simp only []
  rw [if_neg (show ¬ L.length ≤ i by omega), if_neg (show ¬ (T.at_ L i = 3 ∨ T.at_ L i = 9 ∨ T.at_ L i = 0 ∨ T.at_ L i = 10) by omega), if_pos hk, if_neg he]
theorem bck_cmt_bad (h : i < L.length) (hk : T.at_ L i = 8) (he : cmtA T L i = L.length ∧ T.at_ L (cmtA T L i - 1) ≠ 9) : bck T a b c d L (n + 1) S top bar i = (0, d, (i : Int)) := by
  rw [bck.eq_def]
  simp only []
  rw [if_neg (show ¬ L.length ≤ i by omega), if_neg (show ¬ (T.at_ L i = 3 ∨ T.at_ L i = 9 ∨ T.at_ L i = 0 ∨ T.at_ L i = 10) by omega), if_pos hk, if_pos he]
theorem bck_str {e : Nat} (h : i < L.length) (hk : T.at_ L i = 6) (hq : quoA T L i = some e) : bck T a b c d L (n + 1) S top bar i = bck T a b c d L n (laidIn S top (preA T L i)).1 (laidIn S top (preA T L i)).2 bar e := by
  rw [bck.eq_def]
  simp only []
  rw [if_neg (show ¬ L.length ≤ i by omega), if_neg (show ¬ (T.at_ L i = 3 ∨ T.at_ L i = 9 ∨ T.at_ L i = 0 ∨ T.at_ L i = 10) by omega), if_neg (show ¬ T.at_ L i = 8 by omega), if_pos hk, hq]
  cases S <;> rfl
theorem bck_str_bad (h : i < L.length) (hk : T.at_ L i = 6) (hq : quoA T L i = none) : bck T a b c d L (n + 1) S top bar i = (0, d, (i : Int)) := by
  rw [bck.eq_def]
  simp only []
  rw [if_neg (show ¬ L.length ≤ i by omega), if_neg (show ¬ (T.at_ L i = 3 ∨ T.at_ L i = 9 ∨ T.at_ L i = 0 ∨ T.at_ L i = 10) by omega), if_neg (show ¬ T.at_ L i = 8 by omega), if_pos hk, hq]
theorem bck_open (h : i < L.length) (hk : T.at_ L i = 4) (hl : S.length < 200) : bck T a b c d L (n + 1) S top bar i = bck T a b c d L n (((i : Int), (preA T L i : Int), -1) :: S) top bar (i + 1) := by
  rw [bck.eq_def]
  simp only []
  rw [if_neg (show ¬ L.length ≤ i by omega), if_neg (show ¬ (T.at_ L i = 3 ∨ T.at_ L i = 9 ∨ T.at_ L i = 0 ∨ T.at_ L i = 10) by omega), if_neg (show ¬ T.at_ L i = 8 by omega), if_neg (show ¬ T.at_ L i = 6 by omega), if_pos hk, if_neg (show ¬ 200 ≤ S.length by omega)]
theorem bck_deep (h : i < L.length) (hk : T.at_ L i = 4) (hl : 200 ≤ S.length) : bck T a b c d L (n + 1) S top bar i = (0, c, (i : Int)) := by
  rw [bck.eq_def]
  simp only []
  rw [if_neg (show ¬ L.length ≤ i by omega), if_neg (show ¬ (T.at_ L i = 3 ∨ T.at_ L i = 9 ∨ T.at_ L i = 0 ∨ T.at_ L i = 10) by omega), if_neg (show ¬ T.at_ L i = 8 by omega), if_neg (show ¬ T.at_ L i = 6 by omega), if_pos hk, if_pos hl]
theorem bck_close0 (h : i < L.length) (hk : T.at_ L i = 5) : bck T a b c d L (n + 1) [] top bar i = bck T a b c d L n [] (-1) (i : Int) (i + 1) := by
  rw [bck.eq_def]
  simp only []
  rw [if_neg (show ¬ L.length ≤ i by omega), if_neg (show ¬ (T.at_ L i = 3 ∨ T.at_ L i = 9 ∨ T.at_ L i = 0 ∨ T.at_ L i = 10) by omega), if_neg (show ¬ T.at_ L i = 8 by omega), if_neg (show ¬ T.at_ L i = 6 by omega), if_neg (show ¬ T.at_ L i = 4 by omega), if_pos hk]
theorem bck_close_bad {x : Lvl} (h : i < L.length) (hk : T.at_ L i = 5) (hm : ((L.getD i 0 : Nat) : Int) ≠ T.mate ((L.getD x.1.toNat 0 : Nat) : Int)) : bck T a b c d L (n + 1) (x :: S) top bar i = bck T a b c d L n [] (-1) (i : Int) (i + 1) := by
  rw [bck.eq_def]
  simp only []
  rw [if_neg (show ¬ L.length ≤ i by omega), if_neg (show ¬ (T.at_ L i = 3 ∨ T.at_ L i = 9 ∨ T.at_ L i = 0 ∨ T.at_ L i = 10) by omega), if_neg (show ¬ T.at_ L i = 8 by omega), if_neg (show ¬ T.at_ L i = 6 by omega), if_neg (show ¬ T.at_ L i = 4 by omega), if_pos hk, if_pos hm]
theorem bck_close {x : Lvl} (h : i < L.length) (hk : T.at_ L i = 5) (hm : ((L.getD i 0 : Nat) : Int) = T.mate ((L.getD x.1.toNat 0 : Nat) : Int)) : bck T a b c d L (n + 1) (x :: S) top bar i = bck T a b c d L n (laidIn S top x.2.1).1 (laidIn S top x.2.1).2 bar (i + 1) := by
  rw [bck.eq_def]
  simp only []
  rw [if_neg (show ¬ L.length ≤ i by omega), if_neg (show ¬ (T.at_ L i = 3 ∨ T.at_ L i = 9 ∨ T.at_ L i = 0 ∨ T.at_ L i = 10) by omega), if_neg (show ¬ T.at_ L i = 8 by omega), if_neg (show ¬ T.at_ L i = 6 by omega), if_neg (show ¬ T.at_ L i = 4 by omega), if_pos hk, if_neg (by simpa using hm)]
  cases S <;> rfl
theorem bck_name (h : i < L.length) (hk : T.at_ L i = 1 ∨ T.at_ L i = 2 ∨ T.at_ L i = 7) : bck T a b c d L (n + 1) S top bar i = bck T a b c d L n (laidIn S top (preA T L i)).1 (laidIn S top (preA T L i)).2 bar (nameA T L i) := by
  rw [bck.eq_def]
  simp only []
  rw [if_neg (show ¬ L.length ≤ i by omega), if_neg (show ¬ (T.at_ L i = 3 ∨ T.at_ L i = 9 ∨ T.at_ L i = 0 ∨ T.at_ L i = 10) by omega), if_neg (show ¬ T.at_ L i = 8 by omega), if_neg (show ¬ T.at_ L i = 6 by omega), if_neg (show ¬ T.at_ L i = 4 by omega), if_neg (show ¬ T.at_ L i = 5 by omega)]
  cases S <;> rfl
/-- What the levels hold: brackets, beginnings and last expressions ahead of the index. -/
def LvlOk (i : Nat) (x : Lvl) : Prop := 0 ≤ x.1 ∧ x.1 < i ∧ 0 ≤ x.2.1 ∧ x.2.1 < i ∧ -1 ≤ x.2.2 ∧ x.2.2 < i
def BckOk (S : List Lvl) (top bar : Int) (i : Nat) : Prop := (∀ x ∈ S, LvlOk i x) ∧ -1 ≤ top ∧ top < i ∧ -1 ≤ bar ∧ bar < i
theorem BckOk.up (h : BckOk S top bar i) (hj : i ≤ j) : BckOk S top bar j := by
  obtain ⟨h1, h2, h3, h4, h5⟩ := h
  refine ⟨fun x hx => ?_, by omega, by omega, by omega, by omega⟩
  have := h1 x hx
  unfold LvlOk at this ⊢
  omega
theorem BckOk.laid (h : BckOk S top bar i) {v : Int} (hv : 0 ≤ v) (hv' : v < i) : BckOk (laidIn S top v).1 (laidIn S top v).2 bar i := by
  obtain ⟨h1, h2, h3, h4, h5⟩ := h
  cases S with
  | nil => exact ⟨fun x hx => by simp [laidIn] at hx, by simp only [laidIn]; omega, by simp only [laidIn]; omega, h4, h5⟩
  | cons x r =>
      refine ⟨fun y hy => ?_, h2, h3, h4, h5⟩
      have hx := h1 x (List.mem_cons_self ..)
      rcases List.mem_cons.1 (show y ∈ (x.1, x.2.1, v) :: r from hy) with rfl | hy
      · unfold LvlOk at hx ⊢
        simp only []
        omega
      · exact h1 y (List.mem_cons_of_mem _ hy)
theorem BckOk.open_ (h : BckOk S top bar i) : BckOk (((i : Int), (preA T L i : Int), -1) :: S) top bar (i + 1) := by
  obtain ⟨h1, h2, h3, h4, h5⟩ := h.up (Nat.le_succ i)
  refine ⟨fun y hy => ?_, h2, h3, h4, h5⟩
  rcases List.mem_cons.1 hy with rfl | hy
  · have := preA_le (T := T) (L := L) i
    unfold LvlOk
    simp only []
    omega
  · exact h1 y hy
theorem BckOk.tail {x : Lvl} (h : BckOk (x :: S) top bar i) : BckOk S top bar i := ⟨fun y hy => h.1 y (List.mem_cons_of_mem _ hy), h.2⟩
theorem BckOk.wall (_h : BckOk S top bar i) : BckOk [] (-1) (i : Int) (i + 1) := ⟨by simp, by omega, by omega, by omega, by omega⟩
theorem BckOk.start : BckOk [] (-1) (-1) 0 := ⟨by simp, by omega, by omega, by omega, by omega⟩
theorem bckOut_less (ha : a ≠ 0) (hb : b ≠ 0) (h : BckOk S top bar i) (h0 : (bckOut a b S top bar).2.1 = 0) : (bckOut a b S top bar).1 < i ∧ (bckOut a b S top bar).2.2 = 0 := by
  obtain ⟨h1, h2, h3, h4, h5⟩ := h
  cases S with
  | nil =>
      simp only [bckOut] at h0 ⊢
      split
      · refine ⟨?_, rfl⟩
        simp only []
        omega
      · rename_i hx
        rw [if_neg hx] at h0
        split at h0
        · exact absurd h0 hb
        · exact absurd h0 ha
  | cons x r =>
      have hx := h1 x (List.mem_cons_self ..)
      simp only [bckOut] at h0 ⊢
      unfold LvlOk at hx
      split
      · refine ⟨?_, rfl⟩
        simp only []
        omega
      · rename_i hx
        rw [if_neg hx] at h0
        exact absurd h0 hb
/-- A move backward that answers an index answers one ahead of the end. -/
theorem bck_less (hT : T.Ok) (ha : a ≠ 0) (hb : b ≠ 0) (hc : c ≠ 0) (hd : d ≠ 0) : ∀ {n : Nat} {S : List Lvl} {top bar : Int} {i : Nat}, BckOk S top bar i → i ≤ L.length → L.length < n + i → (bck T a b c d L n S top bar i).2.1 = 0 → (bck T a b c d L n S top bar i).1 < L.length ∧ (bck T a b c d L n S top bar i).2.2 = 0 := by
  intro n
  induction n with
  | zero => intro S top bar i _ h1 h2; omega
  | succ n ih =>
      intro S top bar i hB h1 h2
      by_cases hl : i < L.length
      · have hr := at_range (L := L) hT i
        have hp := preA_le (T := T) (L := L) i
        by_cases hg : T.at_ L i = 3 ∨ T.at_ L i = 9 ∨ T.at_ L i = 0 ∨ T.at_ L i = 10
        · rw [bck_gap hl hg]
          exact ih (hB.up (Nat.le_succ i)) (by omega) (by omega)
        · by_cases h8 : T.at_ L i = 8
          · by_cases he : cmtA T L i = L.length ∧ T.at_ L (cmtA T L i - 1) ≠ 9
            · rw [bck_cmt_bad hl h8 he]; intro h; exact absurd h hd
            · rw [bck_cmt hl h8 he]
              have := cmtF_le (T := T) (L := L) (i := i + 1) (by omega)
              rw [← cmtA_eq] at this
              exact ih (hB.up (by omega)) (by omega) (by omega)
          · by_cases h6 : T.at_ L i = 6
            · cases hq : quoA T L i with
              | none => rw [bck_str_bad hl h6 hq]; intro h; exact absurd h hd
              | some e =>
                  rw [bck_str hl h6 hq]
                  have hq' := hq
                  rw [quoA_eq] at hq'
                  have := quoF_le hq'
                  exact ih ((hB.up (j := e) (by omega)).laid (by omega) (by omega)) (by omega) (by omega)
            · by_cases h4 : T.at_ L i = 4
              · by_cases h200 : 200 ≤ S.length
                · rw [bck_deep hl h4 h200]; intro h; exact absurd h hc
                · rw [bck_open hl h4 (by omega)]
                  exact ih hB.open_ (by omega) (by omega)
              · by_cases h5 : T.at_ L i = 5
                · cases S with
                  | nil => rw [bck_close0 hl h5]; exact ih hB.wall (by omega) (by omega)
                  | cons x r =>
                      have hx := hB.1 x (List.mem_cons_self ..)
                      unfold LvlOk at hx
                      by_cases hm : ((L.getD i 0 : Nat) : Int) = T.mate ((L.getD x.1.toNat 0 : Nat) : Int)
                      · rw [bck_close hl h5 hm]
                        exact ih ((hB.tail.up (Nat.le_succ i)).laid (by omega) (by omega)) (by omega) (by omega)
                      · rw [bck_close_bad hl h5 hm]; exact ih hB.wall (by omega) (by omega)
                · rw [bck_name hl (by omega)]
                  have hn : i < nameA T L i := name_more hT hl h8 hg h4 h5 h6
                  have hn' := nameA_le (T := T) (L := L) (i := i) (by omega)
                  exact ih ((hB.up (j := nameA T L i) (by omega)).laid (by omega) (by omega)) (by omega) (by omega)
      · rw [bck_end (by omega)]
        intro h0
        have := bckOut_less ha hb hB h0
        omega
end
end Go.Proofs.YtdojcgefiekleaaDoor
namespace Go.Proofs.YtdojcgefiekleaaDoor
open Go.RowKit

section
variable (T : Tb)
/-- One move, and several. -/
def fwd1 (L : List Nat) (i : Nat) : Ans := fwd T 13 5 12 L (L.length + 1) [] i
def bck1 (L : List Nat) : Ans := bck T 13 5 12 9 L (L.length + 1) [] (-1) (-1) 0
def sexF (L : List Nat) : Nat → Nat → Ans
  | 0, i => (i, 0, 0)
  | n + 1, i => if (fwd1 T L i).2.1 = 0 then sexF L n (fwd1 T L i).1 else (0, (fwd1 T L i).2)
def sexB (L : List Nat) : Nat → Nat → Ans
  | 0, i => (i, 0, 0)
  | n + 1, i => if (bck1 T (L.take i)).2.1 = 0 then sexB L n (bck1 T (L.take i)).1 else (0, (bck1 T (L.take i)).2)
def sexps (L : List Nat) (n : Int) (i : Nat) : Ans := if n < 0 then sexB T L (-n).toNat i else sexF T L n.toNat i
end
section
variable {T : Tb} {L : List Nat} {i n : Nat}
theorem fwd1_more (h : T.Ok) (hi : i ≤ L.length) (h0 : (fwd1 T L i).2.1 = 0) : i < (fwd1 T L i).1 ∧ (fwd1 T L i).1 ≤ L.length ∧ (fwd1 T L i).2.2 = 0 := fwd_more h (by decide) (by decide) (by decide) hi (by omega) h0
theorem bck1_less (h : T.Ok) (h0 : (bck1 T L).2.1 = 0) : (bck1 T L).1 < L.length ∧ (bck1 T L).2.2 = 0 := bck_less h (by decide) (by decide) (by decide) (by decide) BckOk.start (by omega) (by omega) h0
theorem take_len (hi : i ≤ L.length) : (L.take i).length = i := by simp; omega
/-- Behind a fault-free move the rest is the same. -/
theorem sexF_ok (h0 : (fwd1 T L i).2.1 = 0) : sexF T L (n + 1) i = sexF T L n (fwd1 T L i).1 := by simp only [sexF]; rw [if_pos h0]
theorem sexF_bad (h0 : (fwd1 T L i).2.1 ≠ 0) : sexF T L (n + 1) i = (0, (fwd1 T L i).2) := by simp only [sexF]; rw [if_neg h0]
theorem sexB_ok (h0 : (bck1 T (L.take i)).2.1 = 0) : sexB T L (n + 1) i = sexB T L n (bck1 T (L.take i)).1 := by simp only [sexB]; rw [if_pos h0]
theorem sexB_bad (h0 : (bck1 T (L.take i)).2.1 ≠ 0) : sexB T L (n + 1) i = (0, (bck1 T (L.take i)).2) := by simp only [sexB]; rw [if_neg h0]
theorem sexF_one : sexF T L 1 i = if (fwd1 T L i).2.1 = 0 then ((fwd1 T L i).1, 0, 0) else (0, (fwd1 T L i).2) := rfl
theorem sexB_one : sexB T L 1 i = if (bck1 T (L.take i)).2.1 = 0 then ((bck1 T (L.take i)).1, 0, 0) else (0, (bck1 T (L.take i)).2) := rfl
end
section
variable (T : Tb)
def isPart (k : Int) : Bool := decide (k = 1 ∨ k = 2)
def sB (L : List Nat) : Nat → Nat
  | 0 => 0
  | i + 1 => if isPart (T.at_ L i) then sB L i else i + 1
def sN : List Nat → Nat
  | [] => 0
  | c :: r => if isPart (T.cl (c : Int)) then sN r + 1 else 0
def sF (L : List Nat) (i : Nat) : Nat := i + sN T (L.drop i)
/-- The symbol around an index. -/
def symb (L : List Nat) (i : Nat) : Nat × Nat × Bool := if sB T L i = sF T L i then (0, 0, false) else (sB T L i, sF T L i, true)
end
section
variable {T : Tb} {L : List Nat} {i : Nat}
theorem sB_step (h : isPart (T.at_ L i) = true) : sB T L (i + 1) = sB T L i := by simp only [sB]; rw [if_pos h]
theorem sB_stop (h : isPart (T.at_ L i) = false) : sB T L (i + 1) = i + 1 := by simp only [sB]; rw [if_neg (by simp [h])]
theorem sF_end (h : L.length ≤ i) : sF T L i = i := by
  unfold sF
  rw [List.drop_eq_nil_of_le h]
  rfl
theorem sF_step (h : i < L.length) (hp : isPart (T.at_ L i) = true) : sF T L i = sF T L (i + 1) := by
  unfold sF
  rw [drop_at h]
  simp only [sN]
  rw [if_pos (by exact hp)]
  omega
theorem sF_stop (h : i < L.length) (hp : isPart (T.at_ L i) = false) : sF T L i = i := by
  unfold sF
  rw [drop_at h]
  simp only [sN]
  rw [if_neg (by intro e; rw [show T.cl ((L.getD i 0 : Nat) : Int) = T.at_ L i from rfl, hp] at e; cases e)]
  rfl
theorem sB_spec : ∀ i, sB T L i ≤ i ∧ (∀ j, sB T L i ≤ j → j < i → isPart (T.at_ L j) = true) ∧ (0 < sB T L i → isPart (T.at_ L (sB T L i - 1)) = false) := by
  intro i
  induction i with
  | zero => exact ⟨Nat.le_refl _, fun j _ h => by omega, fun h => by simp [sB] at h⟩
  | succ i ih =>
      cases hp : isPart (T.at_ L i)
      · rw [sB_stop hp]
        exact ⟨Nat.le_refl _, fun j h1 h2 => by omega, fun _ => hp⟩
      · rw [sB_step hp]
        refine ⟨by omega, fun j h1 h2 => ?_, ih.2.2⟩
        by_cases e : j = i
        · rw [e]; exact hp
        · exact ih.2.1 j h1 (by omega)
theorem sF_spec : ∀ {i : Nat}, i ≤ L.length → i ≤ sF T L i ∧ sF T L i ≤ L.length ∧ (∀ j, i ≤ j → j < sF T L i → isPart (T.at_ L j) = true) ∧ (sF T L i < L.length → isPart (T.at_ L (sF T L i)) = false) := by
  intro i h
  obtain ⟨d, hd⟩ : ∃ d, d = L.length - i := ⟨_, rfl⟩
  induction d generalizing i with
  | zero =>
      have h2 : L.length ≤ i := by omega
      rw [sF_end h2]
      exact ⟨Nat.le_refl _, h, fun j h1 h3 => by omega, fun h3 => by omega⟩
  | succ d ih =>
      have h2 : i < L.length := by omega
      cases hp : isPart (T.at_ L i)
      · rw [sF_stop h2 hp]
        exact ⟨Nat.le_refl _, h, fun j h1 h3 => by omega, fun _ => hp⟩
      · rw [sF_step h2 hp]
        obtain ⟨h3, h4, h5, h6⟩ := ih (i := i + 1) (by omega) (by omega)
        refine ⟨by omega, h4, fun j h7 h8 => ?_, h6⟩
        by_cases e : j = i
        · rw [e]; exact hp
        · exact h5 j (by omega) h8
/-- Is there a word or symbol character at an index? -/
def namedAt (T : Tb) (L : List Nat) (i : Int) : Bool := decide (0 ≤ i ∧ i < L.length) && isPart (T.at_ L i.toNat)
/-- The law of Symbol. -/
theorem symb_none (h : i ≤ L.length) (hs : (symb T L i).2.2 = false) : (symb T L i).1 = 0 ∧ (symb T L i).2.1 = 0 ∧ namedAt T L ((i : Int) - 1) = false ∧ namedAt T L (i : Int) = false := by
  unfold symb at hs ⊢
  split at hs
  · rename_i e
    rw [if_pos e]
    have hB := sB_spec (T := T) (L := L) i
    have hF := sF_spec (T := T) (L := L) h
    have e1 : sB T L i = i := by omega
    have e2 : sF T L i = i := by omega
    refine ⟨rfl, rfl, ?_, ?_⟩
    · unfold namedAt
      by_cases hi : 0 < i
      · have := hB.2.2 (by omega)
        rw [e1] at this
        rw [show ((i : Int) - 1).toNat = i - 1 by omega, this]
        simp
      · rw [decide_eq_false (by omega)]
        rfl
    · unfold namedAt
      by_cases hi : i < L.length
      · have := hF.2.2.2 (by omega)
        rw [e2] at this
        rw [show ((i : Int)).toNat = i by omega, this]
        simp
      · rw [decide_eq_false (by omega)]
        rfl
  · cases hs
theorem symb_some (h : i ≤ L.length) (hs : (symb T L i).2.2 = true) : (symb T L i).1 < (symb T L i).2.1 ∧ (symb T L i).2.1 ≤ L.length ∧ (symb T L i).1 ≤ i ∧ i ≤ (symb T L i).2.1 ∧
    (∀ j, (symb T L i).1 ≤ j → j < (symb T L i).2.1 → namedAt T L (j : Int) = true) ∧ namedAt T L (((symb T L i).1 : Int) - 1) = false ∧ namedAt T L ((symb T L i).2.1 : Int) = false := by
  unfold symb at hs ⊢
  split at hs
  · cases hs
  · rename_i e
    rw [if_neg e]
    have hB := sB_spec (T := T) (L := L) i
    have hF := sF_spec (T := T) (L := L) h
    simp only []
    refine ⟨by omega, hF.2.1, hB.1, hF.1, fun j h1 h2 => ?_, ?_, ?_⟩
    · have hp : isPart (T.at_ L j) = true := by
        by_cases hj : j < i
        · exact hB.2.1 j h1 hj
        · exact hF.2.2.1 j (by omega) h2
      unfold namedAt
      rw [decide_eq_true (by omega), show ((j : Int)).toNat = j by omega, hp]
      rfl
    · unfold namedAt
      by_cases hi : 0 < sB T L i
      · have := hB.2.2 hi
        rw [show ((sB T L i : Int) - 1).toNat = sB T L i - 1 by omega, this]
        simp
      · rw [decide_eq_false (by omega)]
        rfl
    · unfold namedAt
      by_cases hi : sF T L i < L.length
      · have := hF.2.2.2 hi
        rw [show ((sF T L i : Int)).toNat = sF T L i by omega, this]
        simp
      · rw [decide_eq_false (by omega)]
        rfl
end
end Go.Proofs.YtdojcgefiekleaaDoor
