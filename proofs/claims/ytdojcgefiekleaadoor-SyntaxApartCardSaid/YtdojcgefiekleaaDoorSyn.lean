/- A move backward over an expression, case by case, and that it moves: plain laws. No condition but those written. -/
import Derived.Test.YtdojcgefiekleaaDoorSyl
namespace Go.Proofs.YtdojcgefiekleaaDoor
open Go.RowKit

/-- The levels and the top level's last expression, when an expression ends in the innermost. -/
def laidIn (S : List Lvl) (top v : Int) : List Lvl × Int := match S with
  | [] => ([], v)
  | x :: r => ((x.1, x.2.1, v) :: r, top)
/-- The answer at the end of the text. -/
def bckOut (a b : Int) (S : List Lvl) (top bar : Int) : Ans := match S with
  | [] => if 0 ≤ top then (top.toNat, 0, 0) else if 0 ≤ bar then (0, b, bar) else (0, a, 0)
  | x :: _ => if 0 ≤ x.2.2 then (x.2.2.toNat, 0, 0) else (0, b, x.1)
section
variable {T : Tb} {L : List Nat} {a b c d : Int} {n i j : Nat} {S : List Lvl} {top bar : Int}
theorem bck_end (h : L.length ≤ i) : bck T a b c d L (n + 1) S top bar i = bckOut a b S top bar := by
  rw [bck.eq_def]
  simp only []
  rw [if_pos h]
  rfl
theorem bck_gap (h : i < L.length) (hk : T.at_ L i = 3 ∨ T.at_ L i = 9 ∨ T.at_ L i = 0 ∨ T.at_ L i = 10) : bck T a b c d L (n + 1) S top bar i = bck T a b c d L n S top bar (i + 1) := by
  rw [bck.eq_def]
  simp only []
  rw [if_neg (show ¬ L.length ≤ i by omega), if_pos hk]
theorem bck_cmt (h : i < L.length) (hk : T.at_ L i = 8) (he : ¬ (cmtA T L i = L.length ∧ T.at_ L (cmtA T L i - 1) ≠ 9)) : bck T a b c d L (n + 1) S top bar i = bck T a b c d L n S top bar (cmtA T L i) := by
  rw [bck.eq_def]
  simp only []
  rw [if_neg (show ¬ L.length ≤ i by omega), if_neg (show ¬ (T.at_ L i = 3 ∨ T.at_ L i = 9 ∨ T.at_ L i = 0 ∨ T.at_ L i = 10) by omega), if_pos hk, if_neg he]
theorem bck_cmt_bad (h : i < L.length) (hk : T.at_ L i = 8) (he : cmtA T L i = L.length ∧ T.at_ L (cmtA T L i - 1) ≠ 9) : bck T a b c d L (n + 1) S top bar i = (0, d, (i : Int)) := by
  rw [bck.eq_def]
  simp only []
  rw [if_neg (show ¬ L.length ≤ i by omega), if_neg (show ¬ (T.at_ L i = 3 ∨ T.at_ L i = 9 ∨ T.at_ L i = 0 ∨ T.at_ L i = 10) by omega), if_pos hk, if_pos he]
theorem bck_str {e : Nat} (h : i < L.length) (hk : T.at_ L i = 6) (hq : quoA T L i = some e) : bck T a b c d L (n + 1) S top bar i = bck T a b c d L n (laidIn S top (preA T L i)).1 (laidIn S top (preA T L i)).2 bar e := by
  rw [bck.eq_def]
  simp only []
  rw [if_neg (show ¬ L.length ≤ i by omega), if_neg (show ¬ (T.at_ L i = 3 ∨ T.at_ L i = 9 ∨ T.at_ L i = 0 ∨ T.at_ L i = 10) by omega), if_neg (show ¬ T.at_ L i = 8 by omega), if_pos hk, hq]
  cases S <;> rfl
theorem bck_str_bad (h : i < L.length) (hk : T.at_ L i = 6) (hq : quoA T L i = none) : bck T a b c d L (n + 1) S top bar i = (0, d, (i : Int)) := by
  rw [bck.eq_def]
  simp only []
  rw [if_neg (show ¬ L.length ≤ i by omega), if_neg (show ¬ (T.at_ L i = 3 ∨ T.at_ L i = 9 ∨ T.at_ L i = 0 ∨ T.at_ L i = 10) by omega), if_neg (show ¬ T.at_ L i = 8 by omega), if_pos hk, hq]
theorem bck_open (h : i < L.length) (hk : T.at_ L i = 4) (hl : S.length < 200) : bck T a b c d L (n + 1) S top bar i = bck T a b c d L n (((i : Int), (preA T L i : Int), -1) :: S) top bar (i + 1) := by
  rw [bck.eq_def]
  simp only []
  rw [if_neg (show ¬ L.length ≤ i by omega), if_neg (show ¬ (T.at_ L i = 3 ∨ T.at_ L i = 9 ∨ T.at_ L i = 0 ∨ T.at_ L i = 10) by omega), if_neg (show ¬ T.at_ L i = 8 by omega), if_neg (show ¬ T.at_ L i = 6 by omega), if_pos hk, if_neg (show ¬ 200 ≤ S.length by omega)]
theorem bck_deep (h : i < L.length) (hk : T.at_ L i = 4) (hl : 200 ≤ S.length) : bck T a b c d L (n + 1) S top bar i = (0, c, (i : Int)) := by
  rw [bck.eq_def]
  simp only []
  rw [if_neg (show ¬ L.length ≤ i by omega), if_neg (show ¬ (T.at_ L i = 3 ∨ T.at_ L i = 9 ∨ T.at_ L i = 0 ∨ T.at_ L i = 10) by omega), if_neg (show ¬ T.at_ L i = 8 by omega), if_neg (show ¬ T.at_ L i = 6 by omega), if_pos hk, if_pos hl]
theorem bck_close0 (h : i < L.length) (hk : T.at_ L i = 5) : bck T a b c d L (n + 1) [] top bar i = bck T a b c d L n [] (-1) (i : Int) (i + 1) := by
  rw [bck.eq_def]
  simp only []
  rw [if_neg (show ¬ L.length ≤ i by omega), if_neg (show ¬ (T.at_ L i = 3 ∨ T.at_ L i = 9 ∨ T.at_ L i = 0 ∨ T.at_ L i = 10) by omega), if_neg (show ¬ T.at_ L i = 8 by omega), if_neg (show ¬ T.at_ L i = 6 by omega), if_neg (show ¬ T.at_ L i = 4 by omega), if_pos hk]
theorem bck_close_bad {x : Lvl} (h : i < L.length) (hk : T.at_ L i = 5) (hm : ((L.getD i 0 : Nat) : Int) ≠ T.mate ((L.getD x.1.toNat 0 : Nat) : Int)) : bck T a b c d L (n + 1) (x :: S) top bar i = bck T a b c d L n [] (-1) (i : Int) (i + 1) := by
  rw [bck.eq_def]
  simp only []
  rw [if_neg (show ¬ L.length ≤ i by omega), if_neg (show ¬ (T.at_ L i = 3 ∨ T.at_ L i = 9 ∨ T.at_ L i = 0 ∨ T.at_ L i = 10) by omega), if_neg (show ¬ T.at_ L i = 8 by omega), if_neg (show ¬ T.at_ L i = 6 by omega), if_neg (show ¬ T.at_ L i = 4 by omega), if_pos hk, if_pos hm]
theorem bck_close {x : Lvl} (h : i < L.length) (hk : T.at_ L i = 5) (hm : ((L.getD i 0 : Nat) : Int) = T.mate ((L.getD x.1.toNat 0 : Nat) : Int)) : bck T a b c d L (n + 1) (x :: S) top bar i = bck T a b c d L n (laidIn S top x.2.1).1 (laidIn S top x.2.1).2 bar (i + 1) := by
  rw [bck.eq_def]
  simp only []
  rw [if_neg (show ¬ L.length ≤ i by omega), if_neg (show ¬ (T.at_ L i = 3 ∨ T.at_ L i = 9 ∨ T.at_ L i = 0 ∨ T.at_ L i = 10) by omega), if_neg (show ¬ T.at_ L i = 8 by omega), if_neg (show ¬ T.at_ L i = 6 by omega), if_neg (show ¬ T.at_ L i = 4 by omega), if_pos hk, if_neg (by simpa using hm)]
  cases S <;> rfl
theorem bck_name (h : i < L.length) (hk : T.at_ L i = 1 ∨ T.at_ L i = 2 ∨ T.at_ L i = 7) : bck T a b c d L (n + 1) S top bar i = bck T a b c d L n (laidIn S top (preA T L i)).1 (laidIn S top (preA T L i)).2 bar (nameA T L i) := by
  rw [bck.eq_def]
  simp only []
  rw [if_neg (show ¬ L.length ≤ i by omega), if_neg (show ¬ (T.at_ L i = 3 ∨ T.at_ L i = 9 ∨ T.at_ L i = 0 ∨ T.at_ L i = 10) by omega), if_neg (show ¬ T.at_ L i = 8 by omega), if_neg (show ¬ T.at_ L i = 6 by omega), if_neg (show ¬ T.at_ L i = 4 by omega), if_neg (show ¬ T.at_ L i = 5 by omega)]
  cases S <;> rfl
/-- What the levels hold: brackets, beginnings and last expressions ahead of the index. -/
def LvlOk (i : Nat) (x : Lvl) : Prop := 0 ≤ x.1 ∧ x.1 < i ∧ 0 ≤ x.2.1 ∧ x.2.1 < i ∧ -1 ≤ x.2.2 ∧ x.2.2 < i
def BckOk (S : List Lvl) (top bar : Int) (i : Nat) : Prop := (∀ x ∈ S, LvlOk i x) ∧ -1 ≤ top ∧ top < i ∧ -1 ≤ bar ∧ bar < i
theorem BckOk.up (h : BckOk S top bar i) (hj : i ≤ j) : BckOk S top bar j := by
  obtain ⟨h1, h2, h3, h4, h5⟩ := h
  refine ⟨fun x hx => ?_, by omega, by omega, by omega, by omega⟩
  have := h1 x hx
  unfold LvlOk at this ⊢
  omega
theorem BckOk.laid (h : BckOk S top bar i) {v : Int} (hv : 0 ≤ v) (hv' : v < i) : BckOk (laidIn S top v).1 (laidIn S top v).2 bar i := by
  obtain ⟨h1, h2, h3, h4, h5⟩ := h
  cases S with
  | nil => exact ⟨fun x hx => by simp [laidIn] at hx, by simp only [laidIn]; omega, by simp only [laidIn]; omega, h4, h5⟩
  | cons x r =>
      refine ⟨fun y hy => ?_, h2, h3, h4, h5⟩
      have hx := h1 x (List.mem_cons_self ..)
      rcases List.mem_cons.1 (show y ∈ (x.1, x.2.1, v) :: r from hy) with rfl | hy
      · unfold LvlOk at hx ⊢
        simp only []
        omega
      · exact h1 y (List.mem_cons_of_mem _ hy)
theorem BckOk.open_ (h : BckOk S top bar i) : BckOk (((i : Int), (preA T L i : Int), -1) :: S) top bar (i + 1) := by
  obtain ⟨h1, h2, h3, h4, h5⟩ := h.up (Nat.le_succ i)
  refine ⟨fun y hy => ?_, h2, h3, h4, h5⟩
  rcases List.mem_cons.1 hy with rfl | hy
  · have := preA_le (T := T) (L := L) i
    unfold LvlOk
    simp only []
    omega
  · exact h1 y hy
theorem BckOk.tail {x : Lvl} (h : BckOk (x :: S) top bar i) : BckOk S top bar i := ⟨fun y hy => h.1 y (List.mem_cons_of_mem _ hy), h.2⟩
theorem BckOk.wall (_h : BckOk S top bar i) : BckOk [] (-1) (i : Int) (i + 1) := ⟨by simp, by omega, by omega, by omega, by omega⟩
theorem BckOk.start : BckOk [] (-1) (-1) 0 := ⟨by simp, by omega, by omega, by omega, by omega⟩
theorem bckOut_less (ha : a ≠ 0) (hb : b ≠ 0) (h : BckOk S top bar i) (h0 : (bckOut a b S top bar).2.1 = 0) : (bckOut a b S top bar).1 < i ∧ (bckOut a b S top bar).2.2 = 0 := by
  obtain ⟨h1, h2, h3, h4, h5⟩ := h
  cases S with
  | nil =>
      simp only [bckOut] at h0 ⊢
      split
      · refine ⟨?_, rfl⟩
        simp only []
        omega
      · rename_i hx
        rw [if_neg hx] at h0
        split at h0
        · exact absurd h0 hb
        · exact absurd h0 ha
  | cons x r =>
      have hx := h1 x (List.mem_cons_self ..)
      simp only [bckOut] at h0 ⊢
      unfold LvlOk at hx
      split
      · refine ⟨?_, rfl⟩
        simp only []
        omega
      · rename_i hx
        rw [if_neg hx] at h0
        exact absurd h0 hb
/-- A move backward that answers an index answers one ahead of the end. -/
theorem bck_less (hT : T.Ok) (ha : a ≠ 0) (hb : b ≠ 0) (hc : c ≠ 0) (hd : d ≠ 0) : ∀ {n : Nat} {S : List Lvl} {top bar : Int} {i : Nat}, BckOk S top bar i → i ≤ L.length → L.length < n + i → (bck T a b c d L n S top bar i).2.1 = 0 → (bck T a b c d L n S top bar i).1 < L.length ∧ (bck T a b c d L n S top bar i).2.2 = 0 := by
  intro n
  induction n with
  | zero => intro S top bar i _ h1 h2; omega
  | succ n ih =>
      intro S top bar i hB h1 h2
      by_cases hl : i < L.length
      · have hr := at_range (L := L) hT i
        have hp := preA_le (T := T) (L := L) i
        by_cases hg : T.at_ L i = 3 ∨ T.at_ L i = 9 ∨ T.at_ L i = 0 ∨ T.at_ L i = 10
        · rw [bck_gap hl hg]
          exact ih (hB.up (Nat.le_succ i)) (by omega) (by omega)
        · by_cases h8 : T.at_ L i = 8
          · by_cases he : cmtA T L i = L.length ∧ T.at_ L (cmtA T L i - 1) ≠ 9
            · rw [bck_cmt_bad hl h8 he]; intro h; exact absurd h hd
            · rw [bck_cmt hl h8 he]
              have := cmtF_le (T := T) (L := L) (i := i + 1) (by omega)
              rw [← cmtA_eq] at this
              exact ih (hB.up (by omega)) (by omega) (by omega)
          · by_cases h6 : T.at_ L i = 6
            · cases hq : quoA T L i with
              | none => rw [bck_str_bad hl h6 hq]; intro h; exact absurd h hd
              | some e =>
                  rw [bck_str hl h6 hq]
                  have hq' := hq
                  rw [quoA_eq] at hq'
                  have := quoF_le hq'
                  exact ih ((hB.up (j := e) (by omega)).laid (by omega) (by omega)) (by omega) (by omega)
            · by_cases h4 : T.at_ L i = 4
              · by_cases h200 : 200 ≤ S.length
                · rw [bck_deep hl h4 h200]; intro h; exact absurd h hc
                · rw [bck_open hl h4 (by omega)]
                  exact ih hB.open_ (by omega) (by omega)
              · by_cases h5 : T.at_ L i = 5
                · cases S with
                  | nil => rw [bck_close0 hl h5]; exact ih hB.wall (by omega) (by omega)
                  | cons x r =>
                      have hx := hB.1 x (List.mem_cons_self ..)
                      unfold LvlOk at hx
                      by_cases hm : ((L.getD i 0 : Nat) : Int) = T.mate ((L.getD x.1.toNat 0 : Nat) : Int)
                      · rw [bck_close hl h5 hm]
                        exact ih ((hB.tail.up (Nat.le_succ i)).laid (by omega) (by omega)) (by omega) (by omega)
                      · rw [bck_close_bad hl h5 hm]; exact ih hB.wall (by omega) (by omega)
                · rw [bck_name hl (by omega)]
                  have hn : i < nameA T L i := name_more hT hl h8 hg h4 h5 h6
                  have hn' := nameA_le (T := T) (L := L) (i := i) (by omega)
                  exact ih ((hB.up (j := nameA T L i) (by omega)).laid (by omega) (by omega)) (by omega) (by omega)
      · rw [bck_end (by omega)]
        intro h0
        have := bckOut_less ha hb hB h0
        omega
end
end Go.Proofs.YtdojcgefiekleaaDoor
