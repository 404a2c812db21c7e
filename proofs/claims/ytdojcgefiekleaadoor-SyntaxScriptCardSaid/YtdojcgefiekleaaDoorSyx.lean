/- The move forward by recursion, as the reference makes it, answers as the move with a stack: plain laws. No condition but those written. -/
import Derived.Test.YtdojcgefiekleaaDoorSyu
namespace Go.Proofs.YtdojcgefiekleaaDoor
open Go.RowKit

section
variable {T : Tb} {L : List Nat} {a b c : Int} {n m i j : Nat} {opens : List Nat}
theorem fwd_fuel (hT : T.Ok) : ∀ {n m : Nat} {opens : List Nat} {i : Nat}, i ≤ L.length → L.length < n + i → L.length < m + i → fwd T a b c L n opens i = fwd T a b c L m opens i := by
  intro n
  induction n with
  | zero => intro m opens i h0 h1; omega
  | succ n ih =>
      intro m opens i h0 h1 h2
      cases m with
      | zero => omega
      | succ m =>
      have hg := gapA_le (T := T) (L := L) h0
      have hs := gapA_spec (T := T) (L := L) h0
      obtain ⟨j, hj⟩ : ∃ j, gapA T L i = j := ⟨_, rfl⟩
      rw [hj] at hg hs
      by_cases e : j = L.length
      · rw [fwd_end hj e, fwd_end hj e]
      · have hl : j < L.length := by omega
        have hs := hs hl
        by_cases h5 : T.at_ L j = 5
        · cases opens with
          | nil => rw [fwd_close0 hj e h5, fwd_close0 hj e h5]
          | cons o r =>
              by_cases hm : ((L.getD j 0 : Nat) : Int) = T.mate ((L.getD o 0 : Nat) : Int)
              · by_cases hr : r = []
                · subst hr
                  rw [fwd_close_last hj e h5 hm, fwd_close_last hj e h5 hm]
                · rw [fwd_close hj e h5 hm hr, fwd_close hj e h5 hm hr]
                  exact ih (by omega) (by omega) (by omega)
              · rw [fwd_close_bad hj e h5 hm, fwd_close_bad hj e h5 hm]
        · by_cases h4 : T.at_ L j = 4
          · by_cases h200 : 200 ≤ opens.length
            · rw [fwd_deep hj e h4 h200, fwd_deep hj e h4 h200]
            · rw [fwd_open hj e h4 (by omega), fwd_open hj e h4 (by omega)]
              exact ih (by omega) (by omega) (by omega)
          · by_cases h6 : T.at_ L j = 6
            · cases hq : quoA T L j with
              | none => rw [fwd_str_bad hj e h6 hq, fwd_str_bad hj e h6 hq]
              | some q =>
                  have hq' := hq
                  rw [quoA_eq] at hq'
                  have := quoF_le hq'
                  cases opens with
                  | nil => rw [fwd_str_last hj e h6 hq, fwd_str_last hj e h6 hq]
                  | cons o r =>
                      rw [fwd_str hj e h6 hq (by simp), fwd_str hj e h6 hq (by simp)]
                      exact ih (by omega) (by omega) (by omega)
            · have := name_more hT hl hs.1 hs.2 h4 h5 h6
              have hn := nameA_le (T := T) (L := L) (i := j) (by omega)
              cases opens with
              | nil => rw [fwd_name_last hj e h4 h5 h6, fwd_name_last hj e h4 h5 h6]
              | cons o r =>
                  rw [fwd_name hj e h4 h5 h6 (by simp), fwd_name hj e h4 h5 h6 (by simp)]
                  exact ih (by omega) (by omega) (by omega)
end
section
variable (T : Tb) (L : List Nat)
mutual
/-- Forward over one expression, at a depth. -/
def rF : Nat → Nat → Nat → Ans
  | 0, _, _ => (0, 0, 0)
  | n + 1, d, i =>
      if gapA T L i = L.length then (0, 13, (gapA T L i : Int)) else
      if T.at_ L (gapA T L i) = 5 then (0, 5, (gapA T L i : Int)) else
      if T.at_ L (gapA T L i) = 6 then (match quoA T L (gapA T L i) with | none => (0, 13, (gapA T L i : Int)) | some e => (e, 0, 0)) else
      if T.at_ L (gapA T L i) = 4 then (if 200 ≤ d then (0, 12, (gapA T L i : Int)) else rL n d (gapA T L i) (gapA T L i + 1)) else (nameA T L (gapA T L i), 0, 0)
/-- The rest of a list. -/
def rL : Nat → Nat → Nat → Nat → Ans
  | 0, _, _, _ => (0, 0, 0)
  | n + 1, d, o, i =>
      if gapA T L i = L.length then (0, 13, (o : Int)) else
      if T.at_ L (gapA T L i) = 5 ∧ ((L.getD (gapA T L i) 0 : Nat) : Int) = T.mate ((L.getD o 0 : Nat) : Int) then (gapA T L i + 1, 0, 0) else
      if (rF n (d + 1) (gapA T L i)).2.1 ≠ 0 then (0, (rF n (d + 1) (gapA T L i)).2) else rL n d o (rF n (d + 1) (gapA T L i)).1
end
end
section
variable {T : Tb} {L : List Nat} {n m i j d o : Nat}
theorem gapA_gap (h : i ≤ L.length) : gapA T L (gapA T L i) = gapA T L i := by
  have hg := gapA_le (T := T) (L := L) h
  by_cases e : gapA T L i < L.length
  · have hs := gapA_spec (T := T) (L := L) h e
    exact gapA_stop e hs.1 hs.2
  · exact gapA_end (by omega)
theorem rF_eq : rF T L (n + 1) d i = (if gapA T L i = L.length then (0, 13, (gapA T L i : Int)) else
      if T.at_ L (gapA T L i) = 5 then (0, 5, (gapA T L i : Int)) else
      if T.at_ L (gapA T L i) = 6 then (match quoA T L (gapA T L i) with | none => (0, 13, (gapA T L i : Int)) | some e => (e, 0, 0)) else
      if T.at_ L (gapA T L i) = 4 then (if 200 ≤ d then (0, 12, (gapA T L i : Int)) else rL T L n d (gapA T L i) (gapA T L i + 1)) else (nameA T L (gapA T L i), 0, 0) : Ans) := by rw [rF.eq_def]
theorem rL_eq : rL T L (n + 1) d o i = (if gapA T L i = L.length then (0, 13, (o : Int)) else
      if T.at_ L (gapA T L i) = 5 ∧ ((L.getD (gapA T L i) 0 : Nat) : Int) = T.mate ((L.getD o 0 : Nat) : Int) then (gapA T L i + 1, 0, 0) else
      if (rF T L n (d + 1) (gapA T L i)).2.1 ≠ 0 then (0, (rF T L n (d + 1) (gapA T L i)).2) else rL T L n d o (rF T L n (d + 1) (gapA T L i)).1 : Ans) := by rw [rL.eq_def]
/-- What the stack's move does behind an answer of the recursion. -/
def behind (T : Tb) (L : List Nat) (N : Nat) (rest : List Nat) (r : Ans) : Ans := if r.2.1 ≠ 0 then (0, r.2) else if rest = [] then (r.1, 0, 0) else fwd T 13 5 12 L N rest r.1
theorem rL_fwd (hT : T.Ok) : ∀ (n : Nat) {N M d o i : Nat} {rest : List Nat}, rest.length = d → i ≤ L.length → 2 * (L.length - i) + 1 < n → L.length < N + i → L.length < M + i →
    fwd T 13 5 12 L N (o :: rest) i = behind T L M rest (rL T L n d o i) ∧ ((rL T L n d o i).2.1 = 0 → i < (rL T L n d o i).1 ∧ (rL T L n d o i).1 ≤ L.length ∧ (rL T L n d o i).2.2 = 0) := by
  intro n
  induction n using Nat.strongRecOn with
  | _ n ih =>
  intro N M d o i rest hd h0 h1 h2 hM
  cases n with
  | zero => omega
  | succ n =>
  cases N with
  | zero => omega
  | succ N =>
  have hg := gapA_le (T := T) (L := L) h0
  have hs := gapA_spec (T := T) (L := L) h0
  have hgg := gapA_gap (T := T) (L := L) h0
  rw [rL_eq]
  obtain ⟨j, hj⟩ : ∃ j, gapA T L i = j := ⟨_, rfl⟩
  rw [hj] at hg hs hgg ⊢
  by_cases e : j = L.length
  · rw [fwd_end hj e, if_pos e]
    exact ⟨rfl, fun h => by simp at h⟩
  · have hl : j < L.length := by omega
    have hs := hs hl
    rw [if_neg e]
    by_cases h5 : T.at_ L j = 5
    · by_cases hm : ((L.getD j 0 : Nat) : Int) = T.mate ((L.getD o 0 : Nat) : Int)
      · rw [if_pos ⟨h5, hm⟩]
        refine ⟨?_, fun _ => ⟨by simp; omega, by simp; omega, rfl⟩⟩
        by_cases hr : rest = []
        · subst hr
          rw [fwd_close_last hj e h5 hm]
          rfl
        · rw [fwd_close hj e h5 hm hr]
          unfold behind
          rw [if_neg (by simp), if_neg hr]
          exact fwd_fuel hT (by omega) (by omega) (by omega)
      · rw [if_neg (fun h => hm h.2), fwd_close_bad hj e h5 hm]
        cases n with
        | zero => omega
        | succ n =>
        rw [rF_eq, hgg, if_neg e, if_pos h5]
        exact ⟨rfl, fun h => by simp at h⟩
    · rw [if_neg (fun h => h5 h.1)]
      cases n with
      | zero => omega
      | succ n =>
      rw [rF_eq, hgg, if_neg e, if_neg h5]
      by_cases h4 : T.at_ L j = 4
      · rw [if_neg (show ¬ T.at_ L j = 6 by omega), if_pos h4]
        by_cases h200 : 200 ≤ d + 1
        · rw [if_pos h200, fwd_deep hj e h4 (by simp; omega)]
          exact ⟨rfl, fun h => by simp at h⟩
        · rw [if_neg h200, fwd_open hj e h4 (by simp; omega)]
          have h3 := ih n (by omega) (N := N) (M := M) (d := d + 1) (o := j) (i := j + 1) (rest := o :: rest) (by simp; omega) (by omega) (by omega) (by omega) (by omega)
          obtain ⟨r, hr⟩ : ∃ r, rL T L n (d + 1) j (j + 1) = r := ⟨_, rfl⟩
          rw [hr] at h3 ⊢
          rw [h3.1]
          by_cases h6 : r.2.1 = 0
          · have h7 := h3.2 h6
            rw [if_neg (by simp [h6])]
            have h8 := ih (n + 1) (by omega) (N := M) (M := M) (d := d) (o := o) (i := r.1) (rest := rest) hd (by omega) (by omega) (by omega) (by omega)
            refine ⟨?_, fun h => ?_⟩
            · rw [behind, if_neg (by simp [h6]), if_neg (by simp)]
              exact h8.1
            · have := h8.2 h
              omega
          · rw [if_pos h6]
            refine ⟨?_, fun h => absurd h h6⟩
            rw [behind, if_pos h6, behind, if_pos h6]
      · by_cases h6 : T.at_ L j = 6
        · rw [if_pos h6]
          cases hq : quoA T L j with
          | none =>
              rw [fwd_str_bad hj e h6 hq]
              exact ⟨rfl, fun h => by simp at h⟩
          | some q =>
              have hq' := hq
              rw [quoA_eq] at hq'
              have := quoF_le hq'
              rw [fwd_str hj e h6 hq (by simp)]
              simp only [ne_eq, not_true_eq_false, if_false]
              have h8 := ih (n + 1) (by omega) (N := N) (M := M) (d := d) (o := o) (i := q) (rest := rest) hd (by omega) (by omega) (by omega) (by omega)
              exact ⟨h8.1, fun h => by have := h8.2 h; omega⟩
        · rw [if_neg h6, if_neg h4]
          have := name_more hT hl hs.1 hs.2 h4 h5 h6
          have hn := nameA_le (T := T) (L := L) (i := j) (by omega)
          rw [fwd_name hj e h4 h5 h6 (by simp)]
          simp only [ne_eq, not_true_eq_false, if_false]
          have h8 := ih (n + 1) (by omega) (N := N) (M := M) (d := d) (o := o) (i := nameA T L j) (rest := rest) hd (by omega) (by omega) (by omega) (by omega)
          exact ⟨h8.1, fun h => by have := h8.2 h; omega⟩
/-- The reference's move is the program's. -/
theorem rF_fwd1 (hT : T.Ok) (h0 : i ≤ L.length) (h1 : 2 * (L.length - i) < n) : (if (rF T L n 0 i).2.1 ≠ 0 then (0, (rF T L n 0 i).2) else rF T L n 0 i) = fwd1 T L i := by
  cases n with
  | zero => omega
  | succ n =>
  have hg := gapA_le (T := T) (L := L) h0
  have hs := gapA_spec (T := T) (L := L) h0
  unfold fwd1
  rw [rF_eq]
  obtain ⟨j, hj⟩ : ∃ j, gapA T L i = j := ⟨_, rfl⟩
  rw [hj] at hg hs ⊢
  by_cases e : j = L.length
  · rw [fwd_end hj e, if_pos e]
    rfl
  · have hl : j < L.length := by omega
    have hs := hs hl
    rw [if_neg e]
    by_cases h5 : T.at_ L j = 5
    · rw [if_pos h5, fwd_close0 hj e h5]
      rfl
    · rw [if_neg h5]
      by_cases h6 : T.at_ L j = 6
      · rw [if_pos h6]
        cases hq : quoA T L j with
        | none => rw [fwd_str_bad hj e h6 hq]; rfl
        | some q => rw [fwd_str_last hj e h6 hq]; rfl
      · rw [if_neg h6]
        by_cases h4 : T.at_ L j = 4
        · rw [if_pos h4, if_neg (show ¬ 200 ≤ 0 by omega), fwd_open hj e h4 (by simp)]
          have h3 := rL_fwd (L := L) hT n (N := L.length) (M := L.length) (d := 0) (o := j) (i := j + 1) (rest := []) rfl (by omega) (by omega) (by omega) (by omega)
          rw [h3.1]
          unfold behind
          by_cases h7 : (rL T L n 0 j (j + 1)).2.1 = 0
          · have h8 := h3.2 h7
            rw [if_neg (not_not_intro h7), if_neg (not_not_intro h7), if_pos rfl]
            exact Prod.ext rfl (Prod.ext h7 h8.2.2)
          · rw [if_pos h7, if_pos h7]
        · rw [if_neg h4, fwd_name_last hj e h4 h5 h6]
          rfl
end
end Go.Proofs.YtdojcgefiekleaaDoor
