/- Built texts: the law of every expression in them: plain laws. No condition but those written. -/
import Derived.Test.YtdojcgefiekleaaDoorSybb
namespace Go.Proofs.YtdojcgefiekleaaDoor
open Go.RowKit

/-- A text that grows behind s; g: a separator stands at its end. -/
def Ext (g : Bool) (s L : List Nat) : Prop := ∃ r, L = s ++ r ∧ (g = true ∨ Sep0 r)
/-- An expression: where it begins, where it ends, the bracket around it (-1: none). -/
abbrev Exr := Nat × Nat × Int
def lastOf (E : List Exr) (v : Int) : Int := E.foldl (fun m e => if e.2.2 = v then max m (e.1 : Int) else m) (-1)
def beforeOf (E : List Exr) (v : Int) (b : Nat) : Int := E.foldl (fun m e => if e.2.2 = v ∧ e.2.1 ≤ b then max m (e.1 : Int) else m) (-1)
def hdL (S : List Lvl) : Int := match S with | [] => -1 | y :: _ => y.1
def wantOf (m v : Int) : Ans := if 0 ≤ m then (m.toNat, 0, 0) else if 0 ≤ v then (0, 5, v) else (0, 13, 0)
theorem lastOf_snoc (E : List Exr) (e : Exr) (v : Int) : lastOf (E ++ [e]) v = if e.2.2 = v then max (lastOf E v) (e.1 : Int) else lastOf E v := by simp [lastOf]
theorem lastOf_lt {v n : Int} (hn : -1 < n) : ∀ (E : List Exr) (m : Int), m < n → (∀ e ∈ E, e.2.2 = v → (e.1 : Int) < n) → E.foldl (fun m e => if e.2.2 = v then max m (e.1 : Int) else m) m < n
  | [], m, hm, _ => hm
  | e :: E, m, hm, h => by
      rw [List.foldl_cons]
      refine lastOf_lt hn E _ ?_ fun x hx => h x (List.mem_cons_of_mem _ hx)
      split
      · rename_i he
        have := h e (List.mem_cons_self ..) he
        omega
      · exact hm
theorem lastOf_none {v : Int} : ∀ (E : List Exr) (m : Int), (∀ e ∈ E, e.2.2 ≠ v) → E.foldl (fun m e => if e.2.2 = v then max m (e.1 : Int) else m) m = m
  | [], m, _ => rfl
  | e :: E, m, h => by
      rw [List.foldl_cons, if_neg (h e (List.mem_cons_self ..))]
      exact lastOf_none E m fun x hx => h x (List.mem_cons_of_mem _ hx)
theorem before_last {v : Int} {b : Nat} : ∀ (E : List Exr) (m : Int), (∀ e ∈ E, e.2.2 = v → e.2.1 ≤ b) → E.foldl (fun m e => if e.2.2 = v ∧ e.2.1 ≤ b then max m (e.1 : Int) else m) m = E.foldl (fun m e => if e.2.2 = v then max m (e.1 : Int) else m) m
  | [], m, _ => rfl
  | e :: E, m, h => by
      rw [List.foldl_cons, List.foldl_cons]
      by_cases he : e.2.2 = v
      · rw [if_pos ⟨he, h e (List.mem_cons_self ..) he⟩, if_pos he]
        exact before_last E _ fun x hx => h x (List.mem_cons_of_mem _ hx)
      · rw [if_neg (fun x => he x.1), if_neg he]
        exact before_last E _ fun x hx => h x (List.mem_cons_of_mem _ hx)
/-- What holds of the open levels. -/
def LvOk (s : List Nat) (E : List Exr) (top : Int) : List Lvl → Prop
  | [] => lastOf E (-1) = top
  | y :: B => lastOf E y.1 = y.2.2 ∧ y.2.1 = y.1 ∧ hdL B < y.1 ∧ y.1 < s.length ∧ (s.getD y.1.toNat 0 = 40 ∨ s.getD y.1.toNat 0 = 91) ∧ bck1 T0 (s.take y.1.toNat) = bckOut 13 5 B top (-1) ∧ (∀ e ∈ E, e.2.2 = hdL B → (e.2.1 : Int) ≤ y.1) ∧ LvOk s E top B
theorem LvOk.hd_ge {s : List Nat} {E : List Exr} {top : Int} : ∀ {S : List Lvl}, LvOk s E top S → -1 ≤ hdL S
  | [], _ => Int.le_refl _
  | y :: B, h => by
      have := LvOk.hd_ge h.2.2.2.2.2.2.2
      have := h.2.2.1
      simp only [hdL]
      omega
theorem getD_left {s t : List Nat} {k : Nat} (h : k < s.length) : (s ++ t).getD k 0 = s.getD k 0 := by
  unfold List.getD
  rw [List.getElem?_append_left h]
theorem take_left {s t : List Nat} {k : Nat} (h : k ≤ s.length) : (s ++ t).take k = s.take k := by
  rw [List.take_append, show k - s.length = 0 by omega]
  simp
theorem LvOk.more {s t : List Nat} {E : List Exr} {top : Int} {e : Exr} : ∀ {S : List Lvl}, LvOk s E top S → hdL S < e.2.2 → LvOk (s ++ t) (E ++ [e]) top S
  | [], h, he => by
      simp only [LvOk, hdL] at h he ⊢
      rw [lastOf_snoc, if_neg (by omega)]
      exact h
  | y :: B, h, he => by
      obtain ⟨h1, h2, h3, h4, h5, h6, h7, h8⟩ := h
      have := LvOk.hd_ge h8
      simp only [hdL] at he
      refine ⟨by rw [lastOf_snoc, if_neg (by omega)]; exact h1, h2, h3, by rw [List.length_append]; omega, by rw [getD_left (by omega)]; exact h5, by rw [take_left (by omega)]; exact h6, fun x hx hv => ?_, LvOk.more h8 (by omega)⟩
      rcases List.mem_append.1 hx with hx | hx
      · exact h7 x hx hv
      · rw [List.mem_singleton] at hx
        subst hx
        omega
theorem LvOk.grow {s t : List Nat} {E : List Exr} {top : Int} : ∀ {S : List Lvl}, LvOk s E top S → LvOk (s ++ t) E top S
  | [], h => h
  | y :: B, h => by
      obtain ⟨h1, h2, h3, h4, h5, h6, h7, h8⟩ := h
      have := LvOk.hd_ge h8
      exact ⟨h1, h2, h3, by rw [List.length_append]; omega, by rw [getD_left (by omega)]; exact h5, by rw [take_left (by omega)]; exact h6, h7, LvOk.grow h8⟩
/-- A new expression in the innermost level. -/
theorem LvOk.laid {s t : List Nat} {E : List Exr} {top : Int} {S : List Lvl} {b e : Nat} (h : LvOk s E top S) (hb : ∀ x ∈ E, x.2.2 = hdL S → (x.1 : Int) < (b : Int)) : LvOk (s ++ t) (E ++ [(b, e, hdL S)]) (laidIn S top b).2 (laidIn S top b).1 := by
  have hm : max (lastOf E (hdL S)) (b : Int) = b := by
    have : lastOf E (hdL S) < max 0 (b : Int) ∨ True := .inr trivial
    have h1 : lastOf E (hdL S) < (b : Int) + 1 := lastOf_lt (by omega) E (-1) (by omega) fun x hx hv => by have := hb x hx hv; omega
    omega
  cases S with
  | nil =>
      show lastOf (E ++ [(b, e, hdL [])]) (-1) = (b : Int)
      rw [lastOf_snoc, if_pos (show (b, e, hdL []).2.2 = -1 from rfl)]
      exact hm
  | cons y B =>
      obtain ⟨h1, h2, h3, h4, h5, h6, h7, h8⟩ := h
      have := LvOk.hd_ge h8
      refine ⟨?_, h2, h3, by rw [List.length_append]; omega, by rw [getD_left (by omega)]; exact h5, by rw [take_left (by omega)]; exact h6, fun x hx hv => ?_, LvOk.more h8 h3⟩
      · show lastOf (E ++ [(b, e, y.1)]) y.1 = (b : Int)
        rw [lastOf_snoc, if_pos (show (b, e, y.1).2.2 = y.1 from rfl)]
        exact hm
      · rcases List.mem_append.1 hx with hx | hx
        · exact h7 x hx hv
        · rw [List.mem_singleton] at hx
          subst hx
          exact absurd hv (show ¬ y.1 = hdL B by omega)
theorem bckOut_want {s : List Nat} {E : List Exr} {top : Int} {S : List Lvl} (h : LvOk s E top S) : bckOut 13 5 S top (-1) = wantOf (lastOf E (hdL S)) (hdL S) := by
  cases S with
  | nil =>
      simp only [LvOk] at h
      rw [show hdL [] = -1 from rfl, h]
      simp only [bckOut, wantOf]
  | cons y B =>
      have := LvOk.hd_ge h.2.2.2.2.2.2.2
      have := h.2.2.1
      rw [show hdL (y :: B) = y.1 from rfl, h.1]
      simp only [bckOut, wantOf]
      split
      · rfl
      · rw [if_pos (show 0 ≤ y.1 by omega)]
/-- What holds of an expression, when it has ended. -/
def FE (g : Bool) (s : List Nat) (pre : List Exr) (e : Exr) : Prop :=
  e.1 < e.2.1 ∧ e.2.1 ≤ s.length ∧ e.2.2 < s.length ∧ (∀ L, Ext g s L → fwd1 T0 L e.1 = (e.2.1, 0, 0)) ∧ bck1 T0 (s.take e.2.1) = (e.1, 0, 0) ∧ bck1 T0 (s.take e.1) = wantOf (beforeOf pre e.2.2 e.1) e.2.2
theorem FE.more {g g' : Bool} {s t : List Nat} {pre : List Exr} {e : Exr} (h : FE g s pre e) (hx : ∀ L, Ext g' (s ++ t) L → Ext g s L) : FE g' (s ++ t) pre e := by
  obtain ⟨h1, h2, h3, h4, h5, h6⟩ := h
  exact ⟨h1, by rw [List.length_append]; omega, by rw [List.length_append]; omega, fun L hL => h4 L (hx L hL), by rw [take_left h2]; exact h5, by rw [take_left (by omega)]; exact h6⟩
theorem bckOut_laid {a b : Int} {S : List Lvl} {top bar : Int} (v : Nat) : bckOut a b (laidIn S top v).1 (laidIn S top v).2 bar = (v, 0, 0) := by
  cases S <;> simp [laidIn, bckOut]
def opensOf (S : List Lvl) : List Nat := S.map fun y => y.1.toNat
structure BGood (g : Bool) (s : List Nat) (E : List Exr) (S : List Lvl) (top : Int) : Prop where
  sep : g = true → SepEnd s
  lv : LvOk s E top S
  bk : ∀ L, Ext g s L → ∀ N, L.length < N + s.length → bck1 T0 L = bck T0 13 5 12 9 L N S top (-1) s.length
  op : ∀ L, Ext g s L → ∀ N, L.length < N + s.length → ∀ A o B, opensOf S = A ++ o :: B → fwd1 T0 L o = fwd T0 13 5 12 L N (A ++ [o]) s.length
  fe : ∀ A e B, E = A ++ e :: B → FE g s A e
  ov : overL T0 s 0 (clean []) = some (clean (S.map (·.1)).reverse)
theorem BGood.start : BGood false [] [] [] (-1) := by
  refine ⟨(fun h => nomatch h), rfl, fun L _ N hN => ?_, fun L _ N _ A o B h => by simp [opensOf] at h, fun A e B h => by simp at h, rfl⟩
  unfold bck1
  exact bck_fuel T0_ok (by omega) (by omega) (by simpa using hN)
section
variable {g : Bool} {s : List Nat} {E : List Exr} {S : List Lvl} {top : Int}
theorem BGood.all (h : BGood g s E S top) {e : Exr} (he : e ∈ E) : ∃ A, FE g s A e := by
  obtain ⟨A, B, rfl⟩ := List.append_of_mem he
  exact ⟨A, h.fe A e B rfl⟩
theorem BGood.here (h : BGood g s E S top) : bck1 T0 s = bckOut 13 5 S top (-1) := by
  rw [h.bk s ⟨[], by simp, .inr (.inl rfl)⟩ 1 (by omega)]
  exact bck_end (Nat.le_refl _)
theorem BGood.gap (h : BGood g s E S top) (hS : S.length ≤ 200) {q : List Nat} (hq : q ∈ gapsL) : BGood true (s ++ q) E S top := by
  have hx : ∀ L, Ext true (s ++ q) L → Ext g s L := by
    rintro L ⟨r, rfl, _⟩
    exact ⟨q ++ r, by simp, .inr (.inr (gaps_ne hq r))⟩
  refine ⟨fun _ => gaps_end hq s, h.lv.grow, fun L hL N hN => ?_, fun L hL N hN A o B hS => ?_, fun A e B he => (h.fe A e B he).more hx, ?_⟩
  · rw [h.bk L (hx L hL) (L.length + 1) (by omega)]
    obtain ⟨r, rfl, _⟩ := hL
    rw [List.append_assoc] at hN ⊢
    rw [List.length_append (as := s) (bs := q)] at hN ⊢
    exact bck_gaps hq s r S top (-1) (by omega) hN
  · rw [h.op L (hx L hL) (L.length + 1) (by omega) A o B hS]
    obtain ⟨r, rfl, _⟩ := hL
    rw [List.append_assoc] at hN ⊢
    rw [List.length_append (as := s) (bs := q)] at hN ⊢
    have e : gapA T0 (s ++ (q ++ r)) s.length = gapA T0 (s ++ (q ++ r)) (s.length + q.length) := by
      rw [gapA_off, gap_gapN hq]
      unfold gapA
      rw [drop_off]
      simp
      omega
    rw [fwd_gap e]
    exact fwd_fuel T0_ok (by simp <;> omega) (by omega) hN
  · rw [overL_append, h.ov]
    exact over_gap hq _ (by simpa using hS)
theorem opens_lt : ∀ {S : List Lvl}, LvOk s E top S → ∀ o ∈ opensOf S, o < s.length
  | [], _, o, ho => by simp [opensOf] at ho
  | y :: B, h, o, ho => by
      have := LvOk.hd_ge h.2.2.2.2.2.2.2
      have h3 := h.2.2.1
      have h4 := h.2.2.2.1
      rcases List.mem_cons.1 (show o ∈ y.1.toNat :: opensOf B from ho) with rfl | ho
      · omega
      · exact opens_lt h.2.2.2.2.2.2.2 o ho
theorem opensOf_laid (v : Int) : opensOf (laidIn S top v).1 = opensOf S := by cases S <;> rfl
theorem laid_map (v : Int) : (laidIn S top v).1.map (·.1) = S.map (·.1) := by cases S <;> rfl
theorem hdL_lt (h : LvOk s E top S) : hdL S < (s.length : Int) := by
  cases S with
  | nil => simp only [hdL]; omega
  | cons y B => exact h.2.2.2.1
/-- The expressions behind a new one. -/
theorem fe_snoc {g' : Bool} {t : List Nat} {e : Exr} (h : ∀ A e B, E = A ++ e :: B → FE g s A e) (hx : ∀ L, Ext g' (s ++ t) L → Ext g s L) (he : FE g' (s ++ t) E e) : ∀ A e' B, E ++ [e] = A ++ e' :: B → FE g' (s ++ t) A e' := by
  intro A e' B hB
  rcases List.eq_nil_or_concat B with rfl | ⟨B', z, rfl⟩
  · obtain ⟨rfl, h2⟩ := List.append_inj' hB rfl
    obtain rfl : e = e' := by simpa using h2
    exact he
  · rw [List.concat_eq_append] at hB
    rw [show A ++ e' :: (B' ++ [z]) = (A ++ e' :: B') ++ [z] by simp] at hB
    obtain ⟨h1, _⟩ := List.append_inj' hB rfl
    exact (h A e' B' h1).more hx
theorem BGood.piece (h : BGood true s E S top) (hS : S.length ≤ 200) {p : List Nat} (hp : p ∈ piecesL) : BGood false (s ++ p) (E ++ [(s.length, s.length + p.length, hdL S)]) (laidIn S top s.length).1 (laidIn S top s.length).2 := by
  have hx : ∀ L, Ext false (s ++ p) L → Ext true s L := by
    rintro L ⟨r, rfl, _⟩
    exact ⟨p ++ r, by simp, .inl rfl⟩
  have hsep := h.sep rfl
  have hlen : 0 < p.length := by
    obtain ⟨c, p', rfl, _⟩ := piece_is hp
    simp
  have hbk : ∀ L, Ext false (s ++ p) L → ∀ N, L.length < N + (s ++ p).length → bck1 T0 L = bck T0 13 5 12 9 L N (laidIn S top s.length).1 (laidIn S top s.length).2 (-1) (s ++ p).length := by
    intro L hL N hN
    rw [h.bk L (hx L hL) (L.length + 1) (by omega)]
    obtain ⟨r, rfl, hr⟩ := hL
    have hr : Sep0 r := hr.resolve_left (by simp)
    rw [List.append_assoc] at hN ⊢
    rw [List.length_append (as := s) (bs := p)] at hN ⊢
    exact bck_piece hp hsep hr (by omega) hN
  have hlv : LvOk (s ++ p) (E ++ [(s.length, s.length + p.length, hdL S)]) (laidIn S top s.length).2 (laidIn S top s.length).1 := h.lv.laid fun x hx _ => by
    obtain ⟨A, h1, h2, _⟩ := h.all hx
    omega
  refine ⟨(fun e => nomatch e), hlv, hbk, fun L hL N hN A o B hS => ?_, fe_snoc h.fe hx ⟨by simp only []; omega, by simp, ?_, fun L hL => ?_, ?_, ?_⟩, ?_⟩
  · rw [opensOf_laid] at hS
    rw [h.op L (hx L hL) (L.length + 1) (by omega) A o B hS]
    obtain ⟨r, rfl, hr⟩ := hL
    have hr : Sep0 r := hr.resolve_left (by simp)
    rw [List.append_assoc] at hN ⊢
    rw [List.length_append (as := s) (bs := p)] at hN ⊢
    rw [fwd_piece hp hr (by omega) hN, if_neg (by simp)]
  · have := hdL_lt h.lv
    rw [List.length_append]
    simp only []
    omega
  · obtain ⟨r, rfl, hr⟩ := hL
    have hr : Sep0 r := hr.resolve_left (by simp)
    rw [List.append_assoc]
    unfold fwd1
    rw [fwd_piece hp hr (by omega) (M := (s ++ (p ++ r)).length + 1) (by omega), if_pos rfl]
  · simp only []
    rw [show (s ++ p).take (s.length + p.length) = s ++ p from by rw [← List.length_append]; exact List.take_length ..]
    rw [hbk (s ++ p) ⟨[], by simp, .inr (.inl rfl)⟩ 1 (by omega), bck_end (Nat.le_refl _)]
    exact bckOut_laid _
  · simp only []
    rw [take_left (Nat.le_refl _), List.take_length, h.here, bckOut_want h.lv]
    unfold beforeOf
    rw [before_last E (-1) fun x hx _ => by
      obtain ⟨A, h1, h2, _⟩ := h.all hx
      exact h2]
    rfl
  · rw [overL_append, h.ov, laid_map]
    exact over_piece hp _ (by simpa using hS)
theorem BGood.brack (h : BGood true s E S top) (hS : S.length < 200) {q : Nat} (hq : q = 40 ∨ q = 91) : BGood false (s ++ [q]) E (((s.length : Int), (s.length : Int), -1) :: S) top := by
  have hx : ∀ L, Ext false (s ++ [q]) L → Ext true s L := by
    rintro L ⟨r, rfl, _⟩
    exact ⟨[q] ++ r, by simp, .inl rfl⟩
  have hsep := h.sep rfl
  refine ⟨(fun e => nomatch e), ⟨?_, rfl, hdL_lt h.lv, by simp only [List.length_append, List.length_cons, List.length_nil]; omega, ?_, ?_, fun x hx _ => ?_, h.lv.grow⟩, fun L hL N hN => ?_, fun L hL N hN A o B hO => ?_, fun A e B he => (h.fe A e B he).more hx, ?_⟩
  · refine lastOf_none E (-1) fun x hx => ?_
    obtain ⟨A, h1, h2, h3, _⟩ := h.all hx
    simp only []
    omega
  · simp only [Int.toNat_natCast]
    rw [show (s ++ [q]).getD s.length 0 = q by simp]
    exact hq
  · simp only [Int.toNat_natCast]
    rw [take_left (Nat.le_refl _), List.take_length, h.here]
  · obtain ⟨A, h1, h2, _⟩ := h.all hx
    simp only []
    omega
  · rw [h.bk L (hx L hL) (L.length + 1) (by omega)]
    obtain ⟨r, rfl, hr⟩ := hL
    rw [List.append_assoc] at hN ⊢
    rw [List.length_append (as := s) (bs := [q])] at hN ⊢
    exact bck_brack hq hsep hS (by simp <;> omega) hN
  · rw [show opensOf (((s.length : Int), (s.length : Int), -1) :: S) = s.length :: opensOf S from rfl] at hO
    have hlenO : (opensOf S).length = S.length := by simp [opensOf]
    cases A with
    | nil =>
        obtain ⟨rfl, rfl⟩ : s.length = o ∧ opensOf S = B := by simpa using hO
        obtain ⟨r, rfl, hr⟩ := hL
        rw [List.append_assoc] at hN ⊢
        rw [List.length_append (as := s) (bs := [q])] at hN ⊢
        rw [show s ++ ([q] ++ r) = s ++ q :: r from rfl] at hN ⊢
        unfold fwd1
        exact fwd_brack hq (by simp) (by omega) hN
    | cons z A =>
        obtain ⟨rfl, hO2⟩ : s.length = z ∧ opensOf S = A ++ o :: B := by simpa using hO
        rw [h.op L (hx L hL) (L.length + 1) (by omega) A o B hO2]
        obtain ⟨r, rfl, hr⟩ := hL
        rw [List.append_assoc] at hN ⊢
        rw [List.length_append (as := s) (bs := [q])] at hN ⊢
        rw [show s ++ ([q] ++ r) = s ++ q :: r from rfl] at hN ⊢
        have hA : (A ++ [o]).length < 200 := by
          have := congrArg List.length hO2
          simp only [List.length_append, List.length_cons, List.length_nil] at this ⊢
          omega
        exact fwd_brack hq hA (by omega) hN
  · rw [overL_append, h.ov]
    have hk : T0.cl (q : Int) = 4 := by rcases hq with rfl | rfl <;> decide
    have hn : ¬ 200 < S.length + 1 := by omega
    simp [overL, Sta.step, clean, hk, hn]
theorem BGood.shut {x : Lvl} (h : BGood true s E (x :: S) top) (hS : S.length < 200) {q : Nat} (hq : q = s.getD x.1.toNat 0) : BGood false (s ++ [shut q]) (E ++ [(x.1.toNat, s.length + 1, hdL S)]) (laidIn S top x.1).1 (laidIn S top x.1).2 := by
  have hx : ∀ L, Ext false (s ++ [Go.Proofs.YtdojcgefiekleaaDoor.shut q]) L → Ext true s L := by
    rintro L ⟨r, rfl, _⟩
    exact ⟨[Go.Proofs.YtdojcgefiekleaaDoor.shut q] ++ r, by simp, .inl rfl⟩
  have hsep := h.sep rfl
  obtain ⟨v1, v2, v3, v4, v5, v6, v7, v8⟩ := h.lv
  have v0 := LvOk.hd_ge v8
  rw [← hq] at v5
  obtain ⟨b, hb⟩ : ∃ b : Nat, x.1 = (b : Int) := ⟨x.1.toNat, by omega⟩
  have hget : ∀ r, (s ++ Go.Proofs.YtdojcgefiekleaaDoor.shut q :: r).getD x.1.toNat 0 = q := fun r => by rw [getD_left (by omega), hq]
  rw [hb] at v3 v4 v6 v7 hget hq
  simp only [Int.toNat_natCast] at v6 hget hq
  have hbk : ∀ L, Ext false (s ++ [Go.Proofs.YtdojcgefiekleaaDoor.shut q]) L → ∀ N, L.length < N + (s ++ [Go.Proofs.YtdojcgefiekleaaDoor.shut q]).length → bck1 T0 L = bck T0 13 5 12 9 L N (laidIn S top (b : Int)).1 (laidIn S top (b : Int)).2 (-1) (s ++ [Go.Proofs.YtdojcgefiekleaaDoor.shut q]).length := by
    intro L hL N hN
    rw [h.bk L (hx L hL) (L.length + 1) (by omega)]
    obtain ⟨r, rfl, hr⟩ := hL
    rw [List.append_assoc] at hN ⊢
    rw [List.length_append (as := s) (bs := [_])] at hN ⊢
    have := bck_shut (s := s) (r := r) (a := 13) (b := 5) (c := 12) (d := 9) (N := (s ++ ([Go.Proofs.YtdojcgefiekleaaDoor.shut q] ++ r)).length + 1) (M := N) (S := S) (top := top) (bar := -1) (x := x) v5 (by rw [hb]; exact hget r) (by simp <;> omega) hN
    rw [v2, hb] at this
    exact this
  have hlv : LvOk (s ++ [Go.Proofs.YtdojcgefiekleaaDoor.shut q]) (E ++ [(b, s.length + 1, hdL S)]) (laidIn S top (b : Int)).2 (laidIn S top (b : Int)).1 := v8.laid fun y hy hv => by
    have := v7 y hy hv
    obtain ⟨A, h1, h2, _⟩ := h.all hy
    omega
  rw [hb]
  simp only [Int.toNat_natCast]
  refine ⟨(fun e => nomatch e), hlv, hbk, fun L hL N hN A o B hO => ?_, fe_snoc h.fe hx ⟨by simp only []; omega, by simp, ?_, fun L hL => ?_, ?_, ?_⟩, ?_⟩
  · rw [opensOf_laid] at hO
    rw [h.op L (hx L hL) (L.length + 1) (by omega) (b :: A) o B (by rw [show opensOf (x :: S) = x.1.toNat :: opensOf S from rfl, hO, hb]; rfl)]
    obtain ⟨r, rfl, hr⟩ := hL
    rw [List.append_assoc] at hN ⊢
    rw [List.length_append (as := s) (bs := [_])] at hN ⊢
    have := fwd_shut (s := s) (r := r) (a := 13) (b := 5) (c := 12) (N := (s ++ ([Go.Proofs.YtdojcgefiekleaaDoor.shut q] ++ r)).length + 1) (M := N) (opens := A ++ [o]) (o := b) v5 (hget r) (by simp <;> omega) hN
    rw [if_neg (by simp)] at this
    exact this
  · have := hdL_lt v8
    rw [List.length_append]
    simp only []
    omega
  · rw [h.op L (hx L hL) (L.length + 1) (by omega) [] b (opensOf S) (by rw [show opensOf (x :: S) = x.1.toNat :: opensOf S from rfl, hb]; rfl)]
    obtain ⟨r, rfl, hr⟩ := hL
    rw [List.append_assoc]
    have := fwd_shut (s := s) (r := r) (a := 13) (b := 5) (c := 12) (N := (s ++ ([Go.Proofs.YtdojcgefiekleaaDoor.shut q] ++ r)).length + 1) (M := (s ++ ([Go.Proofs.YtdojcgefiekleaaDoor.shut q] ++ r)).length + 1) (opens := []) (o := b) v5 (hget r) (by simp <;> omega) (by simp <;> omega)
    rw [if_pos rfl] at this
    exact this
  · simp only []
    rw [show (s ++ [Go.Proofs.YtdojcgefiekleaaDoor.shut q]).take (s.length + 1) = s ++ [Go.Proofs.YtdojcgefiekleaaDoor.shut q] from by rw [show s.length + 1 = (s ++ [Go.Proofs.YtdojcgefiekleaaDoor.shut q]).length by simp]; exact List.take_length ..]
    rw [hbk _ ⟨[], by simp, .inr (.inl rfl)⟩ 1 (by omega), bck_end (Nat.le_refl _)]
    exact bckOut_laid _
  · simp only []
    rw [take_left (by omega), v6, bckOut_want v8]
    unfold beforeOf
    rw [before_last E (-1) fun y hy hv => by
      have := v7 y hy hv
      omega]
    rfl
  · have hk : T0.cl (Go.Proofs.YtdojcgefiekleaaDoor.shut q : Int) = 5 := by rcases v5 with e | e <;> (rw [e]; decide)
    have hn : ¬ 200 < S.length := by omega
    rw [overL_append, h.ov, laid_map]
    simp [overL, Sta.step, clean, hk, hn]
/-- The lists that are still open, forward. -/
theorem BGood.opened (h : BGood g s E S top) {o : Nat} (ho : o ∈ opensOf S) : fwd1 T0 s o = (0, 13, (((opensOf S).head?.getD 0 : Nat) : Int)) := by
  obtain ⟨A, B, hA⟩ := List.append_of_mem ho
  rw [h.op s ⟨[], by simp, .inr (.inl rfl)⟩ 1 (by omega) A o B hA, fwd_end (gapA_end (Nat.le_refl _)) rfl, hA]
  cases A <;> rfl
end
end Go.Proofs.YtdojcgefiekleaaDoor
