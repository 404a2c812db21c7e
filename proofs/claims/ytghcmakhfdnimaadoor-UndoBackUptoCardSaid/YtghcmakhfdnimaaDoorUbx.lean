/- Changes taken back restore a text: plain laws. No condition but those written. -/
import Derived.Test.YtghcmakhfdnimaaDoorUba
namespace Go.Proofs.YtghcmakhfdnimaaDoor
open Go.RowKit

/-- A text as these laws meet it. -/
structure Tx (L : List Nat) : Prop where
  len : L.length ≤ 1500
  ok : ∀ c ∈ L, okc c
/-- The change c was recorded while M became N. -/
structure Step (c : Chg) (M N : List Nat) : Prop where
  m : Tx M
  n : Tx N
  how : (∃ a t : Nat, c = insC (a : Int) (t : Int) ∧ 1 ≤ a ∧ a < t ∧ t ≤ N.length + 1 ∧ M = N.take (a - 1) ++ N.drop (t - 1)) ∨
    ∃ (a : Nat) (s : ByteArray), c = remC (a : Int) s ∧ 1 ≤ a ∧ a ≤ N.length + 1 ∧ validS s = true ∧ s ≠ ⟨#[]⟩ ∧ s.size ≤ 6000 ∧ M = N.take (a - 1) ++ charsOf s ++ N.drop (a - 1)
/-- Taking back the changes of r, the last one first, leads from N to L. -/
def Back : List Chg → List Nat → List Nat → Prop
  | [], L, N => L = N
  | c :: r, L, N => ∃ M, Step c M N ∧ Back r L M
section
variable {c : Chg} {L M N O : List Nat} {r : List Chg}
theorem Step.tx (h : Step c M N) : c.tx.size ≤ 6000 := by
  rcases h.how with ⟨a, t, rfl, _⟩ | ⟨a, s, rfl, _, _, _, _, h1, _⟩
  · show (⟨#[]⟩ : ByteArray).size ≤ 6000
    decide
  · exact h1
theorem Step.price (h : Step c M N) : c.price ≤ 1501 := by
  rcases h.how with ⟨a, t, rfl, _⟩ | ⟨a, s, rfl, _, _, _, _, h1, h2⟩
  · unfold Chg.price
    rw [if_neg (by show ¬ (1 : Int) = 2; omega)]
    omega
  · unfold Chg.price
    rw [if_pos (by rfl)]
    show 1 + lenS s ≤ 1501
    have := h.m.len
    rw [h2] at this
    simp only [List.length_append] at this
    rw [lenS_eq]
    omega
theorem Step.check (h : Step c M N) : c.check = 0 := by
  have hn := h.n.len
  rcases h.how with ⟨a, t, rfl, h1, h2, h3, _⟩ | ⟨a, s, rfl, h1, h3, h4, _, _, _⟩
  · unfold Chg.check
    rw [if_neg (by show ¬ ((1 : Int) < 1 ∨ 6 < (1 : Int)); omega), if_neg (by show ¬ ((1 : Int) ≠ 6 ∧ ((a : Int) < 1 ∨ 1099511627776 < (a : Int))); omega), if_neg (by show ¬ (((1 : Int) = 1 ∨ (1 : Int) = 5) ∧ ((t : Int) < (a : Int) ∨ 1099511627776 < (t : Int))); omega), if_neg (by show ¬ ((1 : Int) = 5 ∧ (0 : Int) < 0); omega), if_neg (by show ¬ ((1 : Int) = 2 ∧ _); omega)]
  · unfold Chg.check
    rw [if_neg (by show ¬ ((2 : Int) < 1 ∨ 6 < (2 : Int)); omega), if_neg (by show ¬ ((2 : Int) ≠ 6 ∧ ((a : Int) < 1 ∨ 1099511627776 < (a : Int))); omega), if_neg (by show ¬ (((2 : Int) = 1 ∨ (2 : Int) = 5) ∧ _); omega), if_neg (by show ¬ ((2 : Int) = 5 ∧ (0 : Int) < 0); omega), if_neg (by show ¬ ((2 : Int) = 2 ∧ validS s = false); rw [h4]; simp)]
theorem Step.rem_ne {a : Int} {t : ByteArray} (h : Step (remC a t) M N) : t ≠ ⟨#[]⟩ := by
  rcases h.how with ⟨_, _, e, _⟩ | ⟨_, s, e, _, _, _, k, _⟩
  · exact absurd (congrArg Chg.k e) (by show ¬ (2 : Int) = 1; omega)
  · have := congrArg Chg.tx e
    rw [show (remC a t).tx = t from rfl] at this
    rw [this]
    exact k
/-- Two insertions in a row are one. -/
theorem Step.join {x c : Chg} (h1 : Step x M N) (h2 : Step c N O) (hc : c.k = 1) (hx : x.k = 1) (hj : x.t = c.a) : Step { x with t := c.t } M O := by
  rcases h1.how with ⟨a, t, rfl, e1, e2, e3, e4⟩ | ⟨a, s, rfl, _⟩
  · rcases h2.how with ⟨a', t', rfl, f1, f2, f3, f4⟩ | ⟨a', s', rfl, _⟩
    · have hj' : (t : Int) = (a' : Int) := hj
      obtain rfl : t = a' := by omega
      refine ⟨h1.m, h2.n, .inl ⟨a, t', rfl, e1, by omega, f3, ?_⟩⟩
      have hl : (O.take (t - 1)).length = t - 1 := by rw [List.length_take]; omega
      rw [e4, f4, List.take_append_of_le_length (by omega), List.take_take, Nat.min_eq_left (by omega), List.drop_append_of_le_length (by omega), List.drop_eq_nil_of_le (by omega), List.nil_append]
    · exact absurd hc (by show ¬ (2 : Int) = 1; omega)
  · exact absurd hx (by show ¬ (2 : Int) = 1; omega)
theorem Back.tx_n (h : Back r L N) (hr : r ≠ []) : Tx N := by
  cases r with
  | nil => exact absurd rfl hr
  | cons c r =>
    obtain ⟨M, h1, _⟩ := h
    exact h1.n
end
theorem Back.tx_l : ∀ {r : List Chg} {L N : List Nat}, Back r L N → Tx N → Tx L
  | [], _, _, h, hn => h ▸ hn
  | _ :: _, _, _, ⟨_, h1, h2⟩, _ => h2.tx_l h1.m
theorem Back.all : ∀ {r : List Chg} {L N : List Nat}, Back r L N → ∀ c ∈ r, c.tx.size ≤ 6000 ∧ c.price ≤ 1501
  | [], _, _, _, c, hc => by cases hc
  | x :: r, _, _, ⟨_, h1, h2⟩, c, hc => by
    rcases List.mem_cons.1 hc with rfl | hc
    · exact ⟨h1.tx, h1.price⟩
    · exact h2.all c hc
theorem total_le : ∀ {l : List Chg}, (∀ c ∈ l, c.price ≤ 1501) → total l ≤ 1501 * l.length
  | [], _ => by simp [total]
  | c :: l, h => by
    rw [total_cons, List.length_cons]
    have h1 := h c (List.mem_cons_self ..)
    have h2 := total_le (l := l) fun x hx => h x (List.mem_cons_of_mem _ hx)
    omega
def cntG (G : List (List Chg)) : Nat := (G.map List.length).sum
theorem cntG_nil : cntG [] = 0 := rfl
theorem cntG_cons (g : List Chg) (G : List (List Chg)) : cntG (g :: G) = g.length + cntG G := by simp [cntG]
theorem cntG_append (G H : List (List Chg)) : cntG (G ++ H) = cntG G + cntG H := by simp [cntG]
theorem sumG_le : ∀ {G : List (List Chg)}, (∀ g ∈ G, ∀ c ∈ g, c.price ≤ 1501) → sumG G ≤ 1501 * cntG G
  | [], _ => by simp [sumG, cntG]
  | g :: G, h => by
    rw [sumG_cons, cntG_cons]
    have h1 := total_le (h g (List.mem_cons_self ..))
    have h2 := sumG_le (G := G) fun x hx => h x (List.mem_cons_of_mem _ hx)
    omega
theorem cntG_mem : ∀ {G : List (List Chg)} {g : List Chg}, g ∈ G → g.length ≤ cntG G
  | x :: G, g, h => by
    rw [cntG_cons]
    rcases List.mem_cons.1 h with rfl | h
    · omega
    · have := cntG_mem h; omega
theorem cntG_len : ∀ {G : List (List Chg)}, (∀ g ∈ G, g ≠ []) → G.length ≤ cntG G
  | [], _ => Nat.zero_le _
  | g :: G, h => by
    rw [cntG_cons, List.length_cons]
    have h1 := List.length_pos_iff.2 (h g (List.mem_cons_self ..))
    have h2 := cntG_len (G := G) fun x hx => h x (List.mem_cons_of_mem _ hx)
    omega
theorem cntG_take {G : List (List Chg)} {k : Nat} {g : List Chg} (h : G[k]? = some g) : cntG (G.take (k + 1)) = cntG (G.take k) + g.length := by
  rw [List.take_add_one, h, Option.toList_some, cntG_append, cntG_cons, cntG_nil, Nat.add_zero]

/-- The log s tells how the text went through the texts S, up to L; it holds at most K changes. -/
structure Fine (s : Lg) (S : Nat → List Nat) (L : List Nat) (K : Nat) : Prop where
  good : Good s
  lim : s.lim = 1048576
  hist : ∀ k g, s.G[k]? = some g → g ≠ [] ∧ Back g.reverse (S k) (S (k + 1))
  open_ : Back s.O.reverse (S s.G.length) L
  cnt : cntG s.G + s.O.length ≤ K
section
variable {s : Lg} {S : Nat → List Nat} {L L' : List Nat} {K : Nat} {c : Chg}
theorem Fine.new (S : Nat → List Nat) : Fine (Lg.new 1048576) S (S 0) 0 :=
  ⟨Good.new (by omega) (by omega), rfl, fun k g h => by simp [Lg.new] at h, rfl, Nat.le_refl _⟩
theorem Fine.mono (h : Fine s S L K) {K' : Nat} (hk : K ≤ K') : Fine s S L K' := ⟨h.good, h.lim, h.hist, h.open_, Nat.le_trans h.cnt hk⟩
theorem Fine.memG (h : Fine s S L K) : ∀ g ∈ s.G, g ≠ [] ∧ ∀ c ∈ g, c.tx.size ≤ 6000 ∧ c.price ≤ 1501 := fun g hg => by
  obtain ⟨k, hk⟩ := List.mem_iff_getElem?.1 hg
  obtain ⟨h1, h2⟩ := h.hist k g hk
  exact ⟨h1, fun c hc => h2.all c (List.mem_reverse.2 hc)⟩
theorem Fine.memO (h : Fine s S L K) : ∀ c ∈ s.O, c.tx.size ≤ 6000 ∧ c.price ≤ 1501 := fun c hc => h.open_.all c (List.mem_reverse.2 hc)
theorem Fine.cost (h : Fine s S L K) : s.cost ≤ 1501 * (K : Int) ∧ s.now ≤ 1501 * (K : Int) := by
  have h1 := sumG_le (G := s.G) fun g hg c hc => ((h.memG g hg).2 c hc).2
  have h2 := total_le (l := s.O) fun c hc => (h.memO c hc).2
  have h3 := h.cnt
  rw [h.good.cost, h.good.now]
  omega
theorem Fine.small (h : Fine s S L K) (hK : K ≤ 1000) : Small s := by
  have h0 := h.cost
  have h1 := h.cnt
  have h2 := cntG_len (G := s.G) fun g hg => (h.memG g hg).1
  exact ⟨by omega, by omega, fun g hg => by have := cntG_mem hg; omega, by omega, fun g hg c hc => by have := ((h.memG g hg).2 c hc).1; omega, fun c hc => by have := (h.memO c hc).1; omega⟩
theorem Fine.many (h : Fine s S L K) (hK : K ≤ 1000) : s.all.length ≤ 1000000 := by
  have := (h.small hK).many
  have := (all_len s).2
  have h2 := cntG_len (G := s.G) fun g hg => (h.memG g hg).1
  have h1 := h.cnt
  omega
theorem last_cases (l : List Chg) : l = [] ∨ ∃ r x, l = r ++ [x] ∧ l[l.length - 1]? = some x := by
  rcases l.eq_nil_or_concat with rfl | ⟨r, x, rfl⟩
  · exact .inl rfl
  · exact .inr ⟨r, x, by simp, by simp⟩
/-- A change of the text is recorded. -/
theorem Fine.add (h : Fine s S L K) (hK : K ≤ 600) (hc : Step c L L') : Fine (s.add c) S L' (K + 1) ∧ (s.add c).G = s.G ∧ (s.add c).O ≠ [] ∧ (s.add c).ch = s.ch := by
  have hk := hc.check
  have hp := hc.price
  have hcost := h.cost.2
  have hg := h.good.add c
  have he : s.add c = if s.joins c then { s with O := lengthen s.O c.t } else s.push c := by
    unfold Lg.add
    rw [if_pos hk]
    unfold Lg.add0
    split
    · rfl
    · rw [if_neg (by omega)]
  rw [he] at hg ⊢
  cases hj : s.joins c with
  | true =>
    rw [hj, if_pos rfl] at hg
    rw [if_pos rfl]
    obtain ⟨x, hx, e1, e2, e3⟩ := joins_yes hj
    rcases last_cases s.O with e | ⟨r, y, hr, hy⟩
    · rw [e] at hx
      simp at hx
    · rw [hx] at hy
      cases hy
      have hl : lengthen s.O c.t = r ++ [{ x with t := c.t }] := by
        rw [lengthen_eq hx, hr]
        simp
      have ho := h.open_
      rw [hr, List.reverse_append] at ho
      obtain ⟨M, h1, h2⟩ := ho
      have hn := h.cnt
      refine ⟨⟨hg, h.lim, h.hist, ?_, ?_⟩, rfl, ?_, rfl⟩
      · show Back (lengthen s.O c.t).reverse (S s.G.length) L'
        rw [hl, List.reverse_append]
        exact ⟨M, h1.join hc e1 e2 e3, h2⟩
      · show cntG s.G + (lengthen s.O c.t).length ≤ K + 1
        rw [hl]
        rw [hr] at hn
        simp only [List.length_append, List.length_cons, List.length_nil] at hn ⊢
        omega
      · show lengthen s.O c.t ≠ []
        rw [hl]
        simp
  | false =>
    rw [hj, if_neg (by simp)] at hg
    rw [if_neg (by simp)]
    have hn := h.cnt
    refine ⟨⟨hg, h.lim, h.hist, ?_, ?_⟩, rfl, ?_, rfl⟩
    · show Back (s.O ++ [c]).reverse (S s.G.length) L'
      rw [List.reverse_append]
      exact ⟨L, hc, h.open_⟩
    · show cntG s.G + (s.O ++ [c]).length ≤ K + 1
      simp only [List.length_append, List.length_cons, List.length_nil]
      omega
    · show s.O ++ [c] ≠ []
      simp
/-- The open group is closed. -/
theorem Fine.close (h : Fine s S L K) (hK : K ≤ 600) (hS : s.O ≠ [] → S (s.G.length + 1) = L) : Fine s.close S L K ∧ s.close.O = [] ∧ s.close.ch = s.ch ∧ (s.O ≠ [] → s.close.G = s.G ++ [s.O]) ∧ (s.O = [] → s.close.G = s.G) := by
  have hcost := h.cost.1
  have e := close_eq h.good
  have hlim := h.lim
  rw [trim_stop (.inl (by omega))] at e
  have hg := h.good.close
  have hall : s.close.G = s.all := by rw [e]
  have hO : s.close.O = [] := by rw [e]
  have hch : s.close.ch = s.ch := by rw [e]
  have hli : s.close.lim = 1048576 := by rw [e]; exact hlim
  have hn := h.cnt
  by_cases ho : s.O = []
  · have ha : s.all = s.G := by unfold Lg.all; rw [if_pos ho]
    rw [ha] at hall
    refine ⟨⟨hg, hli, by rw [hall]; exact h.hist, ?_, ?_⟩, hO, hch, fun e => absurd ho e, fun _ => hall⟩
    · rw [hO, hall]
      have := h.open_
      rw [ho] at this
      exact this
    · rw [hO, hall]
      rw [ho] at hn
      exact hn
  · have ha : s.all = s.G ++ [s.O] := all_append s ho
    rw [ha] at hall
    refine ⟨⟨hg, hli, ?_, ?_, ?_⟩, hO, hch, fun _ => hall, fun e => absurd e ho⟩
    · rw [hall]
      intro k g hk
      by_cases e1 : k < s.G.length
      · rw [List.getElem?_append_left e1] at hk
        exact h.hist k g hk
      · rw [List.getElem?_append_right (by omega)] at hk
        have e2 : k = s.G.length := by
          have := (List.getElem?_eq_some_iff.1 hk).1
          simp at this
          omega
        subst e2
        rw [Nat.sub_self] at hk
        simp at hk
        subst hk
        refine ⟨ho, ?_⟩
        rw [hS ho]
        exact h.open_
    · rw [hO, hall, List.length_append]
      show S (s.G.length + 1) = L
      exact hS ho
    · rw [hO, hall, cntG_append, cntG_cons, cntG_nil]
      simpa using hn
/-- Where the texts differ only behind the log's end. -/
theorem Fine.turn (h : Fine s S L K) {S' : Nat → List Nat} (hS : ∀ k, k ≤ s.G.length → S' k = S k) : Fine s S' L K :=
  ⟨h.good, h.lim, fun k g hk => by
    have hl := (List.getElem?_eq_some_iff.1 hk).1
    rw [hS k (by omega), hS (k + 1) (by omega)]
    exact h.hist k g hk, by rw [hS _ (Nat.le_refl _)]; exact h.open_, h.cnt⟩
/-- Undo, where the chain begins at c + 1. -/
theorem Fine.undo (h : Fine s S L K) (hK : K ≤ 600) (ho : s.O = []) (again : Bool) (c : Nat) (hc : s.chain0 again = (c : Int) + 1) (hcl : c < s.G.length) : ∃ g, s.G[c]? = some g ∧ s.undone again = g.reverse ∧ s.undoErr again = 0 ∧ (s.undo again).G = s.G ∧ (s.undo again).O = [] ∧ (s.undo again).ch = (c : Int) ∧ Fine (s.undo again) S L K := by
  obtain ⟨hf, e1, e2, _, e4⟩ := h.close hK (fun e => absurd ho e)
  have e4 := e4 ho
  have hch : s.close.chain0 again = (c : Int) + 1 := by
    rw [← hc]
    unfold Lg.chain0
    rw [e4, e2]
  have hg : s.G[c]? = some s.G[c] := List.getElem?_eq_getElem hcl
  have hu : (s.undo again).ch = (c : Int) := by
    show (if s.close.chain0 again = 0 then 0 else s.close.chain0 again - 1) = (c : Int)
    rw [hch, if_neg (by omega)]
    omega
  refine ⟨_, hg, ?_, ?_, e4, e1, hu, ⟨h.good.undo again, hf.lim, hf.hist, hf.open_, hf.cnt⟩⟩
  · show (if s.close.chain0 again = 0 then [] else ((s.close.G[(s.close.chain0 again - 1).toNat]?).getD []).reverse) = _
    rw [hch, if_neg (by omega), e4, show ((c : Int) + 1 - 1).toNat = c by omega, hg]
    rfl
  · unfold Lg.undoErr
    rw [hch, if_neg (by omega)]
/-- Undo, where nothing is left. -/
theorem Fine.undo_end (h : Fine s S L K) (hK : K ≤ 600) (ho : s.O = []) (again : Bool) (hc : s.chain0 again = 0) : s.undone again = [] ∧ s.undoErr again = 13 ∧ (s.undo again).G = s.G ∧ (s.undo again).O = [] ∧ Fine (s.undo again) S L K := by
  obtain ⟨hf, e1, e2, _, e4⟩ := h.close hK (fun e => absurd ho e)
  have e4 := e4 ho
  have hch : s.close.chain0 again = 0 := by
    rw [← hc]
    unfold Lg.chain0
    rw [e4, e2]
  refine ⟨?_, ?_, e4, e1, ⟨h.good.undo again, hf.lim, hf.hist, hf.open_, hf.cnt⟩⟩
  · show (if s.close.chain0 again = 0 then [] else ((s.close.G[(s.close.chain0 again - 1).toNat]?).getD []).reverse) = _
    rw [hch, if_pos rfl]
  · unfold Lg.undoErr
    rw [hch, if_pos rfl]
end
end Go.Proofs.YtghcmakhfdnimaaDoor
