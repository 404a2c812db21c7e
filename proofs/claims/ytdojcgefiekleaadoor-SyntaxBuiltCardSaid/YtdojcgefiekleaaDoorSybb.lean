/- Built texts: what holds behind every element: plain laws. No condition but those written. -/
import Derived.Test.YtdojcgefiekleaaDoorSyba
namespace Go.Proofs.YtdojcgefiekleaaDoor
open Go.RowKit

section
variable (T : Tb)
/-- The scan of a list of characters, from an index. -/
def overL : List Nat → Nat → Sta → Option Sta
  | [], _, s => some s
  | c :: q, i, s => if 200 < (s.step T c i).opens.length then none else overL q (i + 1) (s.step T c i)
end
theorem overL_append (T : Tb) : ∀ (p q : List Nat) (i : Nat) (s : Sta), overL T (p ++ q) i s = (overL T p i s).bind (overL T q (i + p.length))
  | [], q, i, s => by simp [overL]
  | c :: p, q, i, s => by
      rw [List.cons_append]
      simp only [overL]
      split
      · rfl
      · rw [overL_append T p q (i + 1), List.length_cons, show i + 1 + p.length = i + (p.length + 1) by omega]
theorem overN_overL (T : Tb) (L : List Nat) : ∀ (m i : Nat) (s : Sta), i + m ≤ L.length → overN T L m i s = overL T ((L.drop i).take m) i s
  | 0, i, s, _ => by simp [overN, overL]
  | m + 1, i, s, h => by
      rw [drop_at (show i < L.length by omega)]
      simp only [overN, List.take_succ_cons, overL]
      split
      · rfl
      · exact overN_overL T L m (i + 1) _ (by omega)
theorem overN_all (T : Tb) (L : List Nat) (s : Sta) : overN T L L.length 0 s = overL T L 0 s := by
  rw [overN_overL T L L.length 0 s (by omega)]
  simp
def clean (O : List Int) : Sta := ⟨O, 0, 0, false, 0, false⟩
theorem over_gap {g : List Nat} (h : g ∈ gapsL) (i : Nat) {O : List Int} (hO : O.length ≤ 200) : overL T0 g i (clean O) = some (clean O) := by
  have hn : ¬ 200 < O.length := by omega
  simp only [gapsL, List.mem_cons, List.not_mem_nil, or_false] at h
  rcases h with rfl | rfl | rfl | rfl | rfl
  all_goals simp [overL, Sta.step, clean, k32, k10, k59, k40, k93, k34, k41, hn]
theorem over_piece {p : List Nat} (h : p ∈ piecesL) (i : Nat) {O : List Int} (hO : O.length ≤ 200) : overL T0 p i (clean O) = some (clean O) := by
  have hn : ¬ 200 < O.length := by omega
  simp only [piecesL, List.mem_cons, List.not_mem_nil, or_false] at h
  rcases h with rfl | rfl | rfl | rfl | rfl | rfl | rfl
  all_goals simp [overL, Sta.step, clean, k32, k40, k34, k41, k92, k97, k102, k111, k45, k49, k50, k98, k39, k99, k120, hn]
def Sep0 (r : List Nat) : Prop := r = [] ∨ SepHead r
/-- A piece is a name or a string. -/
theorem piece_is {p : List Nat} (h : p ∈ piecesL) : ∃ c p', p = c :: p' ∧ ((T0.cl (c : Int) = 1 ∨ T0.cl (c : Int) = 7) ∧ (∀ r, Sep0 r → nameN T0 (p ++ r) = p.length) ∨ (T0.cl (c : Int) = 6 ∧ ∀ r, quoN T0 c (p' ++ r) = some p'.length)) := by
  have stop : ∀ r, Sep0 r → nameN T0 r = 0 := by
    rintro r (rfl | ⟨c, r', rfl, rfl | rfl⟩)
    · rfl
    · rw [nameN_cons]; simp [k32]
    · rw [nameN_cons]; simp [k10]
  simp only [piecesL, List.mem_cons, List.not_mem_nil, or_false] at h
  rcases h with rfl | rfl | rfl | rfl | rfl | rfl | rfl
  · exact ⟨97, _, rfl, .inl ⟨.inl k97, fun r hr => by simp [nameN_cons, k97, stop r hr]⟩⟩
  · exact ⟨102, _, rfl, .inl ⟨.inl k102, fun r hr => by simp [nameN_cons, k102, k111, k45, k49, stop r hr]⟩⟩
  · exact ⟨34, _, rfl, .inr ⟨k34, fun r => by simp [quoN_cons, k120, k41, k32, k92, k40, k34]⟩⟩
  · exact ⟨92, _, rfl, .inl ⟨.inr k92, fun r hr => by simp [nameN_cons, k92, stop r hr]⟩⟩
  · exact ⟨34, _, rfl, .inr ⟨k34, fun r => by simp [quoN_cons, k34]⟩⟩
  · exact ⟨49, _, rfl, .inl ⟨.inl k49, fun r hr => by simp [nameN_cons, k49, k50, stop r hr]⟩⟩
  · exact ⟨98, _, rfl, .inl ⟨.inl k98, fun r hr => by simp [nameN_cons, k98, k39, k99, stop r hr]⟩⟩
theorem preA_sep (T : Tb) (hT : T.cl 32 = 3) (hT' : T.cl 10 = 9) {s : List Nat} (h : SepEnd s) (r : List Nat) : preA T (s ++ r) s.length = s.length := by
  obtain ⟨s', c, rfl, hc⟩ := h
  rw [show (s' ++ [c]).length = s'.length + 1 by simp]
  apply preA_stop
  rw [show s' ++ [c] ++ r = s' ++ (c :: r) by simp, show s'.length = s'.length + 0 from rfl, at_off]
  rcases hc with rfl | rfl
  · simp [hT]
  · simp [hT']
section
variable {s r : List Nat} {a b c d : Int} {N M : Nat} {opens : List Nat} {S : List Lvl} {top bar : Int}
theorem gapA_tok {k : Nat} {r : List Nat} (hk : T0.cl (k : Int) = 1 ∨ T0.cl (k : Int) = 7 ∨ T0.cl (k : Int) = 6 ∨ T0.cl (k : Int) = 4 ∨ T0.cl (k : Int) = 5) : gapA T0 (s ++ k :: r) s.length = s.length := by
  have e : T0.at_ (s ++ k :: r) s.length = T0.cl (k : Int) := by
    have := at_off T0 s (k :: r) 0
    simpa using this
  exact gapA_stop (by simp) (by omega) (by omega)
theorem fwd_piece {p : List Nat} (hp : p ∈ piecesL) (hr : Sep0 r) (hN : (s ++ (p ++ r)).length < N + s.length) (hM : (s ++ (p ++ r)).length < M + (s.length + p.length)) :
    fwd T0 a b c (s ++ (p ++ r)) N opens s.length = if opens = [] then (s.length + p.length, 0, 0) else fwd T0 a b c (s ++ (p ++ r)) M opens (s.length + p.length) := by
  obtain ⟨k, p', hpe, h⟩ := piece_is hp
  obtain ⟨N, rfl⟩ : ∃ n, N = n + 1 := ⟨N - 1, by simp at hN <;> omega⟩
  have hl : p.length = p'.length + 1 := by rw [hpe]; rfl
  have e0 : T0.at_ (s ++ (p ++ r)) s.length = T0.cl (k : Int) := by
    have := at_off T0 s (p ++ r) 0
    rw [hpe] at this ⊢
    simpa using this
  have hj : gapA T0 (s ++ (p ++ r)) s.length = s.length := by
    rw [hpe, List.cons_append]
    exact gapA_tok (by rcases h with ⟨h | h, _⟩ | ⟨h, _⟩ <;> omega)
  have hne : s.length ≠ (s ++ (p ++ r)).length := by rw [List.length_append, List.length_append]; omega
  rcases h with ⟨hk, hn⟩ | ⟨hk, hq⟩
  · have hname : nameA T0 (s ++ (p ++ r)) s.length = s.length + p.length := by
      unfold nameA
      rw [show (s ++ (p ++ r)).drop s.length = p ++ r by simp, hn r hr]
    split
    · rename_i e
      subst e
      rw [fwd_name_last hj hne (by omega) (by omega) (by omega), hname]
    · rename_i e
      rw [fwd_name hj hne (by omega) (by omega) (by omega) e, hname]
      exact fwd_fuel T0_ok (i := s.length + p.length) (by simp <;> omega) (by omega) hM
  · have hquo : quoA T0 (s ++ (p ++ r)) s.length = some (s.length + p.length) := by
      unfold quoA
      have e1 : (s ++ (p ++ r)).getD s.length 0 = k := by
        rw [hpe]
        simp
      have e2 : (s ++ (p ++ r)).drop (s.length + 1) = p' ++ r := by
        rw [drop_off, hpe]
        simp
      rw [e1, e2, hq r, hl]
      simp <;> omega
    split
    · rename_i e
      subst e
      rw [fwd_str_last hj hne (by omega) hquo]
    · rename_i e
      rw [fwd_str hj hne (by omega) hquo e]
      exact fwd_fuel T0_ok (i := s.length + p.length) (by simp <;> omega) (by omega) hM
theorem bck_piece {p : List Nat} (hp : p ∈ piecesL) (hs : SepEnd s) (hr : Sep0 r) (hN : (s ++ (p ++ r)).length < N + s.length) (hM : (s ++ (p ++ r)).length < M + (s.length + p.length)) :
    bck T0 a b c d (s ++ (p ++ r)) N S top bar s.length = bck T0 a b c d (s ++ (p ++ r)) M (laidIn S top s.length).1 (laidIn S top s.length).2 bar (s.length + p.length) := by
  obtain ⟨k, p', hpe, h⟩ := piece_is hp
  obtain ⟨N, rfl⟩ : ∃ n, N = n + 1 := ⟨N - 1, by simp at hN <;> omega⟩
  have hl : p.length = p'.length + 1 := by rw [hpe]; rfl
  have e0 : T0.at_ (s ++ (p ++ r)) s.length = T0.cl (k : Int) := by
    have := at_off T0 s (p ++ r) 0
    rw [hpe] at this ⊢
    simpa using this
  have hne : s.length < (s ++ (p ++ r)).length := by simp <;> omega
  have hpre := preA_sep T0 k32 k10 hs (p ++ r)
  rcases h with ⟨hk, hn⟩ | ⟨hk, hq⟩
  · have hname : nameA T0 (s ++ (p ++ r)) s.length = s.length + p.length := by
      unfold nameA
      rw [show (s ++ (p ++ r)).drop s.length = p ++ r by simp, hn r hr]
    rw [bck_name hne (by omega), hname, hpre]
    exact bck_fuel T0_ok (i := s.length + p.length) (by simp <;> omega) (by omega) hM
  · have hquo : quoA T0 (s ++ (p ++ r)) s.length = some (s.length + p.length) := by
      unfold quoA
      have e1 : (s ++ (p ++ r)).getD s.length 0 = k := by
        rw [hpe]
        simp
      have e2 : (s ++ (p ++ r)).drop (s.length + 1) = p' ++ r := by
        rw [drop_off, hpe]
        simp
      rw [e1, e2, hq r, hl]
      simp <;> omega
    rw [bck_str hne (by omega) hquo, hpre]
    exact bck_fuel T0_ok (i := s.length + p.length) (by simp <;> omega) (by omega) hM
theorem fwd_brack {q : Nat} (hq : q = 40 ∨ q = 91) (ho : opens.length < 200) (hN : (s ++ q :: r).length < N + s.length) (hM : (s ++ q :: r).length < M + (s.length + 1)) :
    fwd T0 a b c (s ++ q :: r) N opens s.length = fwd T0 a b c (s ++ q :: r) M (s.length :: opens) (s.length + 1) := by
  have hk : T0.cl (q : Int) = 4 := by rcases hq with rfl | rfl <;> decide
  obtain ⟨N, rfl⟩ : ∃ n, N = n + 1 := ⟨N - 1, by simp at hN <;> omega⟩
  have e0 : T0.at_ (s ++ q :: r) s.length = T0.cl (q : Int) := by
    have := at_off T0 s (q :: r) 0
    simpa using this
  rw [fwd_open (gapA_tok (by omega)) (by simp) (by omega) ho]
  exact fwd_fuel T0_ok (i := s.length + 1) (by simp) (by omega) hM
theorem bck_brack {q : Nat} (hq : q = 40 ∨ q = 91) (hs : SepEnd s) (ho : S.length < 200) (hN : (s ++ q :: r).length < N + s.length) (hM : (s ++ q :: r).length < M + (s.length + 1)) :
    bck T0 a b c d (s ++ q :: r) N S top bar s.length = bck T0 a b c d (s ++ q :: r) M (((s.length : Int), (s.length : Int), -1) :: S) top bar (s.length + 1) := by
  have hk : T0.cl (q : Int) = 4 := by rcases hq with rfl | rfl <;> decide
  obtain ⟨N, rfl⟩ : ∃ n, N = n + 1 := ⟨N - 1, by simp at hN <;> omega⟩
  have e0 : T0.at_ (s ++ q :: r) s.length = T0.cl (q : Int) := by
    have := at_off T0 s (q :: r) 0
    simpa using this
  rw [bck_open (by simp) (by omega) ho, preA_sep T0 k32 k10 hs]
  exact bck_fuel T0_ok (i := s.length + 1) (by simp) (by omega) hM
/-- The bracket that closes one. -/
def shut (q : Nat) : Nat := if q = 40 then 41 else 93
theorem fwd_shut {q o : Nat} (hq : q = 40 ∨ q = 91) (ho : (s ++ shut q :: r).getD o 0 = q) (hN : (s ++ shut q :: r).length < N + s.length) (hM : (s ++ shut q :: r).length < M + (s.length + 1)) :
    fwd T0 a b c (s ++ shut q :: r) N (o :: opens) s.length = if opens = [] then (s.length + 1, 0, 0) else fwd T0 a b c (s ++ shut q :: r) M opens (s.length + 1) := by
  have hk : T0.cl (shut q : Int) = 5 ∧ T0.mate (q : Int) = (shut q : Int) := by rcases hq with rfl | rfl <;> decide
  obtain ⟨N, rfl⟩ : ∃ n, N = n + 1 := ⟨N - 1, by simp at hN <;> omega⟩
  have e0 : T0.at_ (s ++ shut q :: r) s.length = T0.cl (shut q : Int) := by
    have := at_off T0 s (shut q :: r) 0
    simpa using this
  have e1 : (s ++ shut q :: r).getD s.length 0 = shut q := by
    have := getD_off s (shut q :: r) 0
    simp
  have hm : (((s ++ shut q :: r).getD s.length 0 : Nat) : Int) = T0.mate (((s ++ shut q :: r).getD o 0 : Nat) : Int) := by rw [e1, ho, hk.2]
  split
  · rename_i e
    subst e
    rw [fwd_close_last (gapA_tok (by omega)) (by simp) (by omega) hm]
  · rename_i e
    rw [fwd_close (gapA_tok (by omega)) (by simp) (by omega) hm e]
    exact fwd_fuel T0_ok (i := s.length + 1) (by simp) (by omega) hM
theorem bck_shut {q : Nat} {x : Lvl} (hq : q = 40 ∨ q = 91) (ho : (s ++ shut q :: r).getD x.1.toNat 0 = q) (hN : (s ++ shut q :: r).length < N + s.length) (hM : (s ++ shut q :: r).length < M + (s.length + 1)) :
    bck T0 a b c d (s ++ shut q :: r) N (x :: S) top bar s.length = bck T0 a b c d (s ++ shut q :: r) M (laidIn S top x.2.1).1 (laidIn S top x.2.1).2 bar (s.length + 1) := by
  have hk : T0.cl (shut q : Int) = 5 ∧ T0.mate (q : Int) = (shut q : Int) := by rcases hq with rfl | rfl <;> decide
  obtain ⟨N, rfl⟩ : ∃ n, N = n + 1 := ⟨N - 1, by simp at hN <;> omega⟩
  have e0 : T0.at_ (s ++ shut q :: r) s.length = T0.cl (shut q : Int) := by
    have := at_off T0 s (shut q :: r) 0
    simpa using this
  have e1 : (s ++ shut q :: r).getD s.length 0 = shut q := by
    have := getD_off s (shut q :: r) 0
    simp
  have hm : (((s ++ shut q :: r).getD s.length 0 : Nat) : Int) = T0.mate (((s ++ shut q :: r).getD x.1.toNat 0 : Nat) : Int) := by rw [e1, ho, hk.2]
  rw [bck_close (by simp) (by omega) hm]
  exact bck_fuel T0_ok (i := s.length + 1) (by simp) (by omega) hM
end
end Go.Proofs.YtdojcgefiekleaaDoor
