/- Built texts: the pieces and the separators, in the table of Lisp: plain laws. No condition but those written. -/
import Derived.Test.YtdojcgefiekleaaDoorSyx
namespace Go.Proofs.YtdojcgefiekleaaDoor
open Go.RowKit

section
variable {T : Tb} {L : List Nat} {a b c d : Int} {n m i j : Nat} {S : List Lvl} {top bar : Int}
theorem bck_fuel (hT : T.Ok) : ∀ {n m : Nat} {S : List Lvl} {top bar : Int} {i : Nat}, i ≤ L.length → L.length < n + i → L.length < m + i → bck T a b c d L n S top bar i = bck T a b c d L m S top bar i := by
  intro n
  induction n with
  | zero => intro m S top bar i h0 h1; omega
  | succ n ih =>
      intro m S top bar i h0 h1 h2
      cases m with
      | zero => omega
      | succ m =>
      by_cases hl : i < L.length
      · by_cases hg : T.at_ L i = 3 ∨ T.at_ L i = 9 ∨ T.at_ L i = 0 ∨ T.at_ L i = 10
        · rw [bck_gap hl hg, bck_gap hl hg]
          exact ih (by omega) (by omega) (by omega)
        · by_cases h8 : T.at_ L i = 8
          · by_cases he : cmtA T L i = L.length ∧ T.at_ L (cmtA T L i - 1) ≠ 9
            · rw [bck_cmt_bad hl h8 he, bck_cmt_bad hl h8 he]
            · rw [bck_cmt hl h8 he, bck_cmt hl h8 he]
              have := cmtF_le (T := T) (L := L) (i := i + 1) (by omega)
              rw [← cmtA_eq] at this
              exact ih (by omega) (by omega) (by omega)
          · by_cases h6 : T.at_ L i = 6
            · cases hq : quoA T L i with
              | none => rw [bck_str_bad hl h6 hq, bck_str_bad hl h6 hq]
              | some e =>
                  rw [bck_str hl h6 hq, bck_str hl h6 hq]
                  have hq' := hq
                  rw [quoA_eq] at hq'
                  have := quoF_le hq'
                  exact ih (by omega) (by omega) (by omega)
            · by_cases h4 : T.at_ L i = 4
              · by_cases h200 : 200 ≤ S.length
                · rw [bck_deep hl h4 h200, bck_deep hl h4 h200]
                · rw [bck_open hl h4 (by omega), bck_open hl h4 (by omega)]
                  exact ih (by omega) (by omega) (by omega)
              · by_cases h5 : T.at_ L i = 5
                · cases S with
                  | nil =>
                      rw [bck_close0 hl h5, bck_close0 hl h5]
                      exact ih (by omega) (by omega) (by omega)
                  | cons x r =>
                      by_cases hm : ((L.getD i 0 : Nat) : Int) = T.mate ((L.getD x.1.toNat 0 : Nat) : Int)
                      · rw [bck_close hl h5 hm, bck_close hl h5 hm]
                        exact ih (by omega) (by omega) (by omega)
                      · rw [bck_close_bad hl h5 hm, bck_close_bad hl h5 hm]
                        exact ih (by omega) (by omega) (by omega)
                · have hr := at_range (L := L) hT i
                  rw [bck_name hl (by omega), bck_name hl (by omega)]
                  have hn : i < nameA T L i := name_more hT hl h8 hg h4 h5 h6
                  have hn' := nameA_le (T := T) (L := L) (i := i) (by omega)
                  exact ih (by omega) (by omega) (by omega)
      · rw [bck_end (by omega), bck_end (by omega)]
theorem fwd_gap {opens : List Nat} (h : gapA T L i = gapA T L j) : fwd T a b c L n opens i = fwd T a b c L n opens j := by
  cases n with
  | zero => rfl
  | succ n =>
      rw [fwd.eq_def, fwd.eq_def]
      simp only [h]
end
/-- The table of Lisp. -/
def T0 : Tb := ⟨true, []⟩
theorem T0_ok : T0.Ok := fun x hx => by cases hx
theorem k32 : T0.cl 32 = 3 := by decide
theorem k10 : T0.cl 10 = 9 := by decide
theorem k59 : T0.cl 59 = 8 := by decide
theorem k40 : T0.cl 40 = 4 := by decide
theorem k91 : T0.cl 91 = 4 := by decide
theorem k41 : T0.cl 41 = 5 := by decide
theorem k93 : T0.cl 93 = 5 := by decide
theorem k34 : T0.cl 34 = 6 := by decide
theorem k92 : T0.cl 92 = 7 := by decide
theorem k97 : T0.cl 97 = 1 := by decide
theorem k102 : T0.cl 102 = 1 := by decide
theorem k111 : T0.cl 111 = 1 := by decide
theorem k45 : T0.cl 45 = 2 := by decide
theorem k49 : T0.cl 49 = 1 := by decide
theorem k50 : T0.cl 50 = 1 := by decide
theorem k98 : T0.cl 98 = 1 := by decide
theorem k39 : T0.cl 39 = 10 := by decide
theorem k99 : T0.cl 99 = 1 := by decide
theorem k120 : T0.cl 120 = 1 := by decide
theorem mate40 : T0.mate 40 = 41 := by decide
theorem mate91 : T0.mate 91 = 93 := by decide
def gapsL : List (List Nat) := [[32], [10], [32, 59, 40, 93, 34, 10], [32, 32], [32, 59, 10, 59, 41, 10, 32]]
def piecesL : List (List Nat) := [[97], [102, 111, 111, 45, 49], [34, 120, 41, 32, 92, 34, 40, 34], [92, 40, 92, 41], [34, 34], [49, 50], [98, 39, 99]]
/-- A text that begins, or ends, with a separator. -/
def SepHead (r : List Nat) : Prop := ∃ c r', r = c :: r' ∧ (c = 32 ∨ c = 10)
def SepEnd (s : List Nat) : Prop := ∃ s' c, s = s' ++ [c] ∧ (c = 32 ∨ c = 10)
theorem gaps_ne {g : List Nat} (h : g ∈ gapsL) (r : List Nat) : SepHead (g ++ r) := by
  simp only [gapsL, List.mem_cons, List.not_mem_nil, or_false] at h
  rcases h with rfl | rfl | rfl | rfl | rfl
  all_goals exact ⟨_, _, rfl, by decide⟩
theorem gaps_end {g : List Nat} (h : g ∈ gapsL) (s : List Nat) : SepEnd (s ++ g) := by
  simp only [gapsL, List.mem_cons, List.not_mem_nil, or_false] at h
  rcases h with rfl | rfl | rfl | rfl | rfl
  · exact ⟨s, 32, rfl, by decide⟩
  · exact ⟨s, 10, rfl, by decide⟩
  · exact ⟨s ++ [32, 59, 40, 93, 34], 10, by simp, by decide⟩
  · exact ⟨s ++ [32], 32, by simp, by decide⟩
  · exact ⟨s ++ [32, 59, 10, 59, 41, 10], 32, by simp, by decide⟩
theorem gap_gapN {g : List Nat} (h : g ∈ gapsL) (r : List Nat) : gapN T0 false (g ++ r) = g.length + gapN T0 false r := by
  simp only [gapsL, List.mem_cons, List.not_mem_nil, or_false] at h
  rcases h with rfl | rfl | rfl | rfl | rfl
  all_goals simp [gapN, k32, k10, k59, k40, k93, k34, k41]
  all_goals omega
theorem getD_off (s q : List Nat) (k : Nat) : (s ++ q).getD (s.length + k) 0 = q.getD k 0 := by
  unfold List.getD
  rw [List.getElem?_append_right (by omega), show s.length + k - s.length = k by omega]
theorem at_off (T : Tb) (s q : List Nat) (k : Nat) : T.at_ (s ++ q) (s.length + k) = T.cl ((q.getD k 0 : Nat) : Int) := by
  unfold Tb.at_
  rw [getD_off]
theorem drop_off (s q : List Nat) (k : Nat) : (s ++ q).drop (s.length + k) = q.drop k := by
  rw [List.drop_append, List.drop_eq_nil_of_le (by omega)]
  simp
theorem gapA_off (T : Tb) (s q : List Nat) : gapA T (s ++ q) s.length = s.length + gapN T false q := by
  unfold gapA
  rw [show (s ++ q).drop s.length = q from by simp]
/-- Backward over the separators. -/
theorem bck_gaps {g : List Nat} (h : g ∈ gapsL) (s r : List Nat) (S : List Lvl) (top bar : Int) {a b c d : Int} {N M : Nat} (hN : (s ++ (g ++ r)).length < N + s.length) (hM : (s ++ (g ++ r)).length < M + (s.length + g.length)) :
    bck T0 a b c d (s ++ (g ++ r)) N S top bar s.length = bck T0 a b c d (s ++ (g ++ r)) M S top bar (s.length + g.length) := by
  have one : ∀ (k N : Nat), k < (g ++ r).length → (T0.cl (((g ++ r).getD k 0 : Nat) : Int) = 3 ∨ T0.cl (((g ++ r).getD k 0 : Nat) : Int) = 9) → (s ++ (g ++ r)).length < N + (s.length + k) →
      bck T0 a b c d (s ++ (g ++ r)) N S top bar (s.length + k) = bck T0 a b c d (s ++ (g ++ r)) (N - 1) S top bar (s.length + (k + 1)) := by
    intro k N hk hc hN
    have hl : s.length + k < (s ++ (g ++ r)).length := by rw [List.length_append]; omega
    obtain ⟨n, rfl⟩ : ∃ n, N = n + 1 := ⟨N - 1, by omega⟩
    rw [bck_gap hl (by rw [at_off]; exact hc.elim .inl fun e => .inr (.inl e))]
    rfl
  have cmt : ∀ (k q N : Nat), k < (g ++ r).length → T0.cl (((g ++ r).getD k 0 : Nat) : Int) = 8 → cmtN T0 ((g ++ r).drop (k + 1)) = q → T0.cl (((g ++ r).getD (k + q) 0 : Nat) : Int) = 9 → (s ++ (g ++ r)).length < N + (s.length + k) →
      bck T0 a b c d (s ++ (g ++ r)) N S top bar (s.length + k) = bck T0 a b c d (s ++ (g ++ r)) (N - 1) S top bar (s.length + (k + 1 + q)) := by
    intro k q N hk hc hq h9 hN
    have hl : s.length + k < (s ++ (g ++ r)).length := by rw [List.length_append]; omega
    obtain ⟨n, rfl⟩ : ∃ n, N = n + 1 := ⟨N - 1, by omega⟩
    have hA : cmtA T0 (s ++ (g ++ r)) (s.length + k) = s.length + (k + 1 + q) := by
      unfold cmtA
      rw [show s.length + k + 1 = s.length + (k + 1) by omega, drop_off, hq]
      omega
    rw [bck_cmt hl (by rw [at_off]; exact hc) (by
      rw [hA]
      rintro ⟨_, h⟩
      apply h
      rw [show s.length + (k + 1 + q) - 1 = s.length + (k + q) by omega, at_off]
      exact h9), hA]
    rfl
  have fin : ∀ N', (s ++ (g ++ r)).length < N' + (s.length + g.length) → bck T0 a b c d (s ++ (g ++ r)) N' S top bar (s.length + g.length) = bck T0 a b c d (s ++ (g ++ r)) M S top bar (s.length + g.length) := fun N' h' => bck_fuel T0_ok (by rw [List.length_append, List.length_append]; omega) h' hM
  have hN0 : (s ++ (g ++ r)).length < N + (s.length + 0) := hN
  rw [show bck T0 a b c d (s ++ (g ++ r)) N S top bar s.length = bck T0 a b c d (s ++ (g ++ r)) N S top bar (s.length + 0) from rfl]
  simp only [gapsL, List.mem_cons, List.not_mem_nil, or_false] at h
  rcases h with rfl | rfl | rfl | rfl | rfl
  · rw [one 0 N (by simp) (.inl k32) hN0]
    exact fin _ (by simp at hN ⊢; omega)
  · rw [one 0 N (by simp) (.inr k10) hN0]
    exact fin _ (by simp at hN ⊢; omega)
  · rw [one 0 N (by simp) (.inl k32) hN0, cmt 1 4 _ (by simp) k59 (by simp [cmtN, k40, k93, k34, k10]) k10 (by simp at hN ⊢; omega)]
    exact fin _ (by simp at hN ⊢; omega)
  · rw [one 0 N (by simp) (.inl k32) hN0, one 1 _ (by simp) (.inl k32) (by simp at hN ⊢; omega)]
    exact fin _ (by simp at hN ⊢; omega)
  · rw [one 0 N (by simp) (.inl k32) hN0, cmt 1 1 _ (by simp) k59 (by simp [cmtN, k10]) k10 (by simp at hN ⊢; omega), cmt 3 2 _ (by simp) k59 (by simp [cmtN, k41, k10]) k10 (by simp at hN ⊢; omega), one 6 _ (by simp) (.inl k32) (by simp at hN ⊢; omega)]
    exact fin _ (by simp at hN ⊢; omega)
end Go.Proofs.YtdojcgefiekleaaDoor
