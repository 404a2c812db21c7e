/- Classes of characters and scans over a text: plain words. No condition but those written. -/
import Derived.Test.YtdojcgefiekleaaDoorUtf
namespace Go.Proofs.YtdojcgefiekleaaDoor
open Go.RowKit

/-- Does a number lie in a list of spans? -/
def inSpans (c : Int) (l : List (Int × Int)) : Bool := l.any fun p => decide (p.1 ≤ c ∧ c ≤ p.2)
def rising : List (Int × Int) → Prop
  | [] => True
  | p :: l => p.1 ≤ p.2 ∧ (∀ q ∈ l, p.2 < q.1) ∧ rising l
theorem rising.ends : ∀ {l : List (Int × Int)}, rising l → ∀ p ∈ l, p.1 ≤ p.2
  | [], _, _, h => by cases h
  | p :: l, hr, q, h => by
      rcases List.mem_cons.1 h with rfl | h
      · exact hr.1
      · exact rising.ends hr.2.2 q h
theorem rising.pair : ∀ {l : List (Int × Int)}, rising l → ∀ a b (h : a < b) (hb : b < l.length), (l[a]'(by omega)).2 < (l[b]).1
  | [], _, _, _, _, hb => absurd hb (by simp)
  | p :: l, hr, 0, b + 1, _, hb => hr.2.1 _ (by rw [List.getElem_cons_succ]; exact List.getElem_mem _)
  | p :: l, hr, a + 1, b + 1, h, hb => by
      rw [List.getElem_cons_succ]
      exact rising.pair hr.2.2 a b (by omega) (by simpa using hb)
def below (c : Int) (l : List (Int × Int)) : Nat := l.countP fun p => decide (p.2 < c)
theorem below_in (c : Int) : ∀ (l : List (Int × Int)), rising l → inSpans c l = (match l[below c l]? with | some p => decide (p.1 ≤ c) | none => false)
  | [], _ => by simp [inSpans, below]
  | p :: l, h => by
      by_cases hp : p.2 < c
      · have e : below c (p :: l) = below c l + 1 := by simp [below, hp]
        rw [e, List.getElem?_cons_succ, ← below_in c l h.2.2]
        have : ¬ (p.1 ≤ c ∧ c ≤ p.2) := by omega
        simp [inSpans, this]
      · have h0 : ∀ q ∈ l, ¬ q.2 < c := fun q hq => by
          have := h.2.1 q hq
          have := rising.ends h.2.2 q hq
          omega
        have e : below c (p :: l) = 0 := by
          simp only [below, List.countP_eq_zero]
          intro q hq
          rcases List.mem_cons.1 hq with rfl | hq
          · simpa using hp
          · simpa using h0 q hq
        rw [e]
        simp only [List.getElem?_cons_zero]
        rw [Bool.eq_iff_iff]
        simp only [inSpans, List.any_cons, Bool.or_eq_true, decide_eq_true_eq, List.any_eq_true]
        constructor
        · rintro (h1 | ⟨q, hq, h1⟩)
          · exact h1.1
          · have := h.2.1 q hq
            have := h.1
            omega
        · intro h1
          exact .inl ⟨h1, by omega⟩
def wordSpans : List (Int × Int) := [(48, 57), (65, 90), (97, 122), (0xaa, 0xaa), (0xb5, 0xb5), (0xba, 0xba), (0xc0, 0xd6), (0xd8, 0xf6), (0xf8, 0x24f), (0x300, 0x37d), (0x37f, 0x386), (0x388, 0x3ff), (0x400, 0x52f), (0x5d0, 0x5ea), (0x3041, 0x30ff), (0x3400, 0x9fff), (0xac00, 0xd7a3), (0x20000, 0x3fffd)]
theorem wordSpans_rising : rising wordSpans := by
  simp [wordSpans, rising]
def isWord (c : Int) : Bool := inSpans c wordSpans

/-- A character's class and mate in the table that New makes. -/
def plainE (c : Int) : Int × Int :=
  if c = 9 ∨ c = 10 ∨ c = 12 ∨ c = 13 ∨ c = 32 then (3, 0) else if isWord c then (1, 0) else (0, 0)
def special : List (Int × Int × Int) := [(40, 4, 41), (41, 5, 40), (91, 4, 93), (93, 5, 91), (34, 6, 0), (92, 7, 0), (59, 8, 0), (10, 9, 0), (39, 10, 0), (96, 10, 0), (44, 10, 0)]
def symbols : List Nat := [45, 43, 42, 47, 60, 62, 61, 33, 63, 36, 37, 38, 95, 126, 94, 58, 123, 125, 124, 46, 64, 35]
def pick (c : Int) (l : List (Int × Int × Int)) : Option (Int × Int) := (l.find? fun x => decide (x.1 = c)).map (·.2)
def lispE (c : Int) : Int × Int := (pick c special).getD (if c.toNat ∈ symbols ∧ 0 ≤ c then (2, 0) else plainE c)
/-- A table: which it is, and the rules that were set, the newest first. -/
structure Tb where
  lisp : Bool
  own : List (Int × Int × Int)
def isCh (c : Int) : Bool := decide (0 ≤ c ∧ c ≤ 1114111 ∧ (c < 55296 ∨ 57343 < c))
def Tb.ent (T : Tb) (c : Int) : Int × Int := if isCh c then (pick c T.own).getD (if T.lisp then lispE c else plainE c) else (0, 0)
def Tb.cl (T : Tb) (c : Int) : Int := (T.ent c).1
def Tb.mate (T : Tb) (c : Int) : Int := (T.ent c).2
def mated (k : Int) : Bool := decide (k = 4 ∨ k = 5)
def setOk (c k m : Int) : Bool := isCh c && decide (0 ≤ k ∧ k ≤ 10) && (!mated k || isCh m)
def Tb.set (T : Tb) (c k m : Int) : Tb := if setOk c k m then { T with own := (c, k, if mated k then m else 0) :: T.own } else T
theorem pick_range {P : Int × Int → Prop} : ∀ {l : List (Int × Int × Int)} {c : Int} {x : Int × Int}, (∀ y ∈ l, P y.2) → pick c l = some x → P x := by
  intro l c x h hp
  unfold pick at hp
  rw [Option.map_eq_some_iff] at hp
  obtain ⟨y, hy, rfl⟩ := hp
  exact h y (List.mem_of_find?_eq_some hy)
def Tb.Ok (T : Tb) : Prop := ∀ x ∈ T.own, isCh x.1 = true ∧ 0 ≤ x.2.1 ∧ x.2.1 ≤ 10 ∧ 0 ≤ x.2.2 ∧ x.2.2 ≤ 1114111
theorem plainE_range (c : Int) : 0 ≤ (plainE c).1 ∧ (plainE c).1 ≤ 10 ∧ 0 ≤ (plainE c).2 ∧ (plainE c).2 ≤ 1114111 := by
  unfold plainE; split
  · decide
  · split <;> decide
theorem lispE_range (c : Int) : 0 ≤ (lispE c).1 ∧ (lispE c).1 ≤ 10 ∧ 0 ≤ (lispE c).2 ∧ (lispE c).2 ≤ 1114111 := by
  unfold lispE
  cases h : pick c special with
  | none =>
      simp only [Option.getD_none]
      split
      · decide
      · exact plainE_range c
  | some x => exact pick_range (P := fun x : Int × Int => 0 ≤ x.1 ∧ x.1 ≤ 10 ∧ 0 ≤ x.2 ∧ x.2 ≤ 1114111) (by decide) h
theorem Tb.Ok.range {T : Tb} (h : T.Ok) (c : Int) : 0 ≤ T.cl c ∧ T.cl c ≤ 10 ∧ 0 ≤ T.mate c ∧ T.mate c ≤ 1114111 := by
  unfold Tb.cl Tb.mate Tb.ent
  split
  · cases hp : pick c T.own with
    | none =>
        simp only [Option.getD_none]
        split
        · exact lispE_range c
        · exact plainE_range c
    | some x =>
        exact pick_range (P := fun x : Int × Int => 0 ≤ x.1 ∧ x.1 ≤ 10 ∧ 0 ≤ x.2 ∧ x.2 ≤ 1114111) (fun y hy => (h y hy).2) hp
  · decide
theorem Tb.Ok.set {T : Tb} (h : T.Ok) (c k m : Int) : (T.set c k m).Ok := by
  unfold Tb.set
  split
  · rename_i hs
    simp only [setOk, Bool.and_eq_true, decide_eq_true_eq, Bool.or_eq_true, Bool.not_eq_true'] at hs
    intro x hx
    rcases List.mem_cons.1 hx with rfl | hx
    · refine ⟨hs.1.1, hs.1.2.1, hs.1.2.2, ?_⟩
      cases hm : mated k
      · simp
      · have := hs.2
        rw [hm] at this
        simp only [Bool.true_eq_false, false_or, isCh, decide_eq_true_eq] at this
        simp only [if_true]
        exact ⟨this.1, this.2.1⟩
    · exact h x hx
  · exact h
end Go.Proofs.YtdojcgefiekleaaDoor
namespace Go.Proofs.YtdojcgefiekleaaDoor
open Go.RowKit

/-- The class at an index of a text. -/
def Tb.at_ (T : Tb) (L : List Nat) (i : Nat) : Int := T.cl ((L.getD i 0 : Nat) : Int)
section
variable (T : Tb)
/-- How many characters a comment's rest has, its end with it. -/
def cmtN : List Nat → Nat
  | [] => 0
  | c :: r => if T.cl (c : Int) = 9 then 1 else cmtN r + 1
/-- How many characters are separators from here; inside: a comment is open. -/
def gapN : Bool → List Nat → Nat
  | _, [] => 0
  | true, c :: r => if T.cl (c : Int) = 9 then gapN false r + 1 else gapN true r + 1
  | false, c :: r => if T.cl (c : Int) = 8 then gapN true r + 1 else
      if T.cl (c : Int) = 3 ∨ T.cl (c : Int) = 9 ∨ T.cl (c : Int) = 0 ∨ T.cl (c : Int) = 10 then gapN false r + 1 else 0
/-- How many characters a name has from here. -/
def nameN : List Nat → Nat
  | [] => 0
  | c :: r => if T.cl (c : Int) = 7 then (match r with | [] => 1 | _ :: r' => nameN r' + 2) else
      if T.cl (c : Int) = 1 ∨ T.cl (c : Int) = 2 ∨ T.cl (c : Int) = 10 then nameN r + 1 else 0
/-- How many characters a string has behind its quote q, if it ends. -/
def quoN (q : Nat) : List Nat → Option Nat
  | [] => none
  | c :: r => if T.cl (c : Int) = 7 then (match r with | [] => none | _ :: r' => (quoN q r').map (· + 2)) else
      if c = q then some 1 else (quoN q r).map (· + 1)
def cmtA (L : List Nat) (i : Nat) : Nat := i + 1 + cmtN T (L.drop (i + 1))
def gapA (L : List Nat) (i : Nat) : Nat := i + gapN T false (L.drop i)
def nameA (L : List Nat) (i : Nat) : Nat := i + nameN T (L.drop i)
def quoA (L : List Nat) (i : Nat) : Option Nat := (quoN T (L.getD i 0) (L.drop (i + 1))).map (· + (i + 1))
/-- The first of the prefixes that stand ahead of an index. -/
def preA (L : List Nat) : Nat → Nat
  | 0 => 0
  | i + 1 => if T.at_ L i = 10 then preA L i else i + 1
end
/-- What a move answers: an index, or a fault and where. -/
abbrev Ans := Nat × Int × Int
section
variable (T : Tb)
/-- Forward over one expression: the fuel, the lists that are open (the innermost first), the index. ErrEnd 5?, see the walk. -/
def fwd (eEnd eForm eDepth : Int) (L : List Nat) : Nat → List Nat → Nat → Ans
  | 0, _, _ => (0, 0, 0)
  | f + 1, opens, i =>
      let at_ := gapA T L i
      if at_ = L.length then (0, eEnd, ((opens.head?.getD at_ : Nat) : Int)) else
      if T.at_ L at_ = 5 then
        match opens with
        | [] => (0, eForm, (at_ : Int))
        | o :: rest => if ((L.getD at_ 0 : Nat) : Int) ≠ T.mate ((L.getD o 0 : Nat) : Int) then (0, eForm, (at_ : Int)) else
            if rest = [] then (at_ + 1, 0, 0) else fwd eEnd eForm eDepth L f rest (at_ + 1)
      else if T.at_ L at_ = 4 then
        if 200 ≤ opens.length then (0, eDepth, (at_ : Int)) else fwd eEnd eForm eDepth L f (at_ :: opens) (at_ + 1)
      else if T.at_ L at_ = 6 then
        match quoA T L at_ with
        | none => (0, eEnd, (at_ : Int))
        | some e => if opens = [] then (e, 0, 0) else fwd eEnd eForm eDepth L f opens e
      else if opens = [] then (nameA T L at_, 0, 0) else fwd eEnd eForm eDepth L f opens (nameA T L at_)
end
/-- A level of lists: the delimiter, where it begins with its prefixes, the last expression in it (-1: none). -/
abbrev Lvl := Int × Int × Int
section
variable (T : Tb)
/-- Backward: the fuel, the levels (the innermost first; the top level is given apart: its last expression, its barrier), the index. -/
def bck (eEnd eForm eDepth eState : Int) (L : List Nat) : Nat → List Lvl → Int → Int → Nat → Ans
  | 0, _, _, _, _ => (0, 0, 0)
  | f + 1, S, top, bar, i =>
      if L.length ≤ i then
        match S with
        | [] => if 0 ≤ top then (top.toNat, 0, 0) else if 0 ≤ bar then (0, eForm, bar) else (0, eEnd, 0)
        | x :: _ => if 0 ≤ x.2.2 then (x.2.2.toNat, 0, 0) else (0, eForm, x.1)
      else
      let k := T.at_ L i
      let said (v : Int) (j : Nat) : Ans := match S with
        | [] => bck eEnd eForm eDepth eState L f [] v bar j
        | x :: r => bck eEnd eForm eDepth eState L f ((x.1, x.2.1, v) :: r) top bar j
      if k = 3 ∨ k = 9 ∨ k = 0 ∨ k = 10 then bck eEnd eForm eDepth eState L f S top bar (i + 1) else
      if k = 8 then
        if cmtA T L i = L.length ∧ T.at_ L (cmtA T L i - 1) ≠ 9 then (0, eState, (i : Int)) else bck eEnd eForm eDepth eState L f S top bar (cmtA T L i)
      else if k = 6 then
        match quoA T L i with
        | none => (0, eState, (i : Int))
        | some e => said (preA T L i : Int) e
      else if k = 4 then
        if 200 ≤ S.length then (0, eDepth, (i : Int)) else bck eEnd eForm eDepth eState L f (((i : Int), (preA T L i : Int), -1) :: S) top bar (i + 1)
      else if k = 5 then
        match S with
        | [] => bck eEnd eForm eDepth eState L f [] (-1) (i : Int) (i + 1)
        | x :: r => if ((L.getD i 0 : Nat) : Int) ≠ T.mate ((L.getD x.1.toNat 0 : Nat) : Int) then bck eEnd eForm eDepth eState L f [] (-1) (i : Int) (i + 1) else
            match r with
            | [] => bck eEnd eForm eDepth eState L f [] x.2.1 bar (i + 1)
            | y :: r' => bck eEnd eForm eDepth eState L f ((y.1, y.2.1, x.2.1) :: r') top bar (i + 1)
      else said (preA T L i : Int) (nameA T L i)
end
end Go.Proofs.YtdojcgefiekleaaDoor
namespace Go.Proofs.YtdojcgefiekleaaDoor
open Go.RowKit

section
variable (T : Tb)
def notW : List Nat → Nat
  | [] => 0
  | c :: r => if T.cl (c : Int) = 1 then 0 else notW r + 1
def inW : List Nat → Nat
  | [] => 0
  | c :: r => if T.cl (c : Int) = 1 then inW r + 1 else 0
def wF (L : List Nat) (i : Nat) : Nat := i + notW T (L.drop i)
def wE (L : List Nat) (i : Nat) : Nat := i + inW T (L.drop i)
def bN (L : List Nat) : Nat → Nat
  | 0 => 0
  | i + 1 => if T.at_ L i = 1 then i + 1 else bN L i
def bE (L : List Nat) : Nat → Nat
  | 0 => 0
  | i + 1 => if T.at_ L i = 1 then bE L i else i + 1
def wordsF (L : List Nat) : Nat → Nat → Nat × Bool
  | 0, i => (i, true)
  | n + 1, i => if wF T L i = L.length then (wF T L i, false) else wordsF L n (wE T L (wF T L i))
def wordsB (L : List Nat) : Nat → Nat → Nat × Bool
  | 0, i => (i, true)
  | n + 1, i => if bN T L i = 0 then (0, false) else wordsB L n (bE T L (bN T L i))
def words (L : List Nat) (n : Int) (i : Nat) : Nat × Bool := if n < 0 then wordsB T L (-n).toNat i else wordsF T L n.toNat i
/-- How many words begin in a piece, and whether one is open at its end. -/
def runs (L : List Nat) : Nat → Nat → Nat × Bool → Nat × Bool
  | 0, _, s => s
  | m + 1, i, s => runs L m (i + 1) (if T.at_ L i = 1 ∧ s.2 = false then s.1 + 1 else s.1, decide (T.at_ L i = 1))
end
section
variable {T : Tb} {L : List Nat}
theorem drop_at {i : Nat} (h : i < L.length) : L.drop i = L.getD i 0 :: L.drop (i + 1) := by
  rw [List.drop_eq_getElem_cons h]
  simp [List.getD, List.getElem?_eq_getElem h]
theorem wF_stop {i : Nat} (h : i < L.length) (hw : T.at_ L i = 1) : wF T L i = i := by
  unfold wF
  rw [drop_at h]
  simp only [notW]
  rw [if_pos (by exact hw)]
  rfl
theorem wF_step {i : Nat} (h : i < L.length) (hw : T.at_ L i ≠ 1) : wF T L i = wF T L (i + 1) := by
  unfold wF
  rw [drop_at h]
  simp only [notW]
  rw [if_neg (by exact hw)]
  omega
theorem wF_end {i : Nat} (h : L.length ≤ i) : wF T L i = i := by
  unfold wF
  rw [List.drop_eq_nil_of_le h]
  rfl
theorem wE_stop {i : Nat} (h : i < L.length) (hw : T.at_ L i ≠ 1) : wE T L i = i := by
  unfold wE
  rw [drop_at h]
  simp only [inW]
  rw [if_neg (by exact hw)]
  rfl
theorem wE_step {i : Nat} (h : i < L.length) (hw : T.at_ L i = 1) : wE T L i = wE T L (i + 1) := by
  unfold wE
  rw [drop_at h]
  simp only [inW]
  rw [if_pos (by exact hw)]
  omega
theorem wE_end {i : Nat} (h : L.length ≤ i) : wE T L i = i := by
  unfold wE
  rw [List.drop_eq_nil_of_le h]
  rfl
theorem bN_stop {i : Nat} (hw : T.at_ L i = 1) : bN T L (i + 1) = i + 1 := by simp only [bN]; rw [if_pos hw]
theorem bN_step {i : Nat} (hw : T.at_ L i ≠ 1) : bN T L (i + 1) = bN T L i := by simp only [bN]; rw [if_neg hw]
theorem bE_stop {i : Nat} (hw : T.at_ L i ≠ 1) : bE T L (i + 1) = i + 1 := by simp only [bE]; rw [if_neg hw]
theorem bE_step {i : Nat} (hw : T.at_ L i = 1) : bE T L (i + 1) = bE T L i := by simp only [bE]; rw [if_pos hw]
/-- From i to wF there is no word, and a word begins there if it is not the end. -/
theorem wF_spec : ∀ {i : Nat}, i ≤ L.length → i ≤ wF T L i ∧ wF T L i ≤ L.length ∧ (∀ j, i ≤ j → j < wF T L i → T.at_ L j ≠ 1) ∧ (wF T L i < L.length → T.at_ L (wF T L i) = 1) := by
  intro i h
  obtain ⟨d, hd⟩ : ∃ d, d = L.length - i := ⟨_, rfl⟩
  induction d generalizing i with
  | zero =>
      have h2 : L.length ≤ i := by omega
      rw [wF_end h2]
      exact ⟨Nat.le_refl _, h, fun j h1 h3 => by omega, fun h3 => by omega⟩
  | succ d ih =>
      have h2 : i < L.length := by omega
      by_cases hw : T.at_ L i = 1
      · rw [wF_stop h2 hw]
        exact ⟨Nat.le_refl _, h, fun j h1 h3 => by omega, fun _ => hw⟩
      · rw [wF_step h2 hw]
        obtain ⟨h3, h4, h5, h6⟩ := ih (i := i + 1) (by omega) (by omega)
        refine ⟨by omega, h4, fun j h7 h8 => ?_, h6⟩
        by_cases e : j = i
        · rw [e]; exact hw
        · exact h5 j (by omega) h8
theorem wE_spec : ∀ {i : Nat}, i ≤ L.length → i ≤ wE T L i ∧ wE T L i ≤ L.length ∧ (∀ j, i ≤ j → j < wE T L i → T.at_ L j = 1) ∧ (wE T L i < L.length → T.at_ L (wE T L i) ≠ 1) := by
  intro i h
  obtain ⟨d, hd⟩ : ∃ d, d = L.length - i := ⟨_, rfl⟩
  induction d generalizing i with
  | zero =>
      have h2 : L.length ≤ i := by omega
      rw [wE_end h2]
      exact ⟨Nat.le_refl _, h, fun j h1 h3 => by omega, fun h3 => by omega⟩
  | succ d ih =>
      have h2 : i < L.length := by omega
      by_cases hw : T.at_ L i = 1
      · rw [wE_step h2 hw]
        obtain ⟨h3, h4, h5, h6⟩ := ih (i := i + 1) (by omega) (by omega)
        refine ⟨by omega, h4, fun j h7 h8 => ?_, h6⟩
        by_cases e : j = i
        · rw [e]; exact hw
        · exact h5 j (by omega) h8
      · rw [wE_stop h2 hw]
        exact ⟨Nat.le_refl _, h, fun j h1 h3 => by omega, fun _ => hw⟩
theorem bN_spec : ∀ {i : Nat}, bN T L i ≤ i ∧ (∀ j, bN T L i ≤ j → j < i → T.at_ L j ≠ 1) ∧ (0 < bN T L i → T.at_ L (bN T L i - 1) = 1) := by
  intro i
  induction i with
  | zero => exact ⟨Nat.le_refl _, fun j _ h => by omega, fun h => by simp [bN] at h⟩
  | succ i ih =>
      by_cases hw : T.at_ L i = 1
      · rw [bN_stop hw]
        exact ⟨Nat.le_refl _, fun j h1 h2 => by omega, fun _ => hw⟩
      · rw [bN_step hw]
        refine ⟨by omega, fun j h1 h2 => ?_, ih.2.2⟩
        by_cases e : j = i
        · rw [e]; exact hw
        · exact ih.2.1 j h1 (by omega)
theorem bE_spec : ∀ {i : Nat}, bE T L i ≤ i ∧ (∀ j, bE T L i ≤ j → j < i → T.at_ L j = 1) ∧ (0 < bE T L i → T.at_ L (bE T L i - 1) ≠ 1) := by
  intro i
  induction i with
  | zero => exact ⟨Nat.le_refl _, fun j _ h => by omega, fun h => by simp [bE] at h⟩
  | succ i ih =>
      by_cases hw : T.at_ L i = 1
      · rw [bE_step hw]
        refine ⟨by omega, fun j h1 h2 => ?_, ih.2.2⟩
        by_cases e : j = i
        · rw [e]; exact hw
        · exact ih.2.1 j h1 (by omega)
      · rw [bE_stop hw]
        exact ⟨Nat.le_refl _, fun j h1 h2 => by omega, fun _ => hw⟩
theorem runs_none : ∀ (m i : Nat) (s : Nat × Bool), (∀ j, i ≤ j → j < i + m → T.at_ L j ≠ 1) → (runs T L m i s).1 = s.1 ∧ (0 < m → (runs T L m i s).2 = false)
  | 0, _, _, _ => ⟨rfl, fun h => absurd h (by omega)⟩
  | m + 1, i, s, h => by
      have h0 := h i (Nat.le_refl _) (by omega)
      have ih := runs_none m (i + 1) (s.1, false) fun j h1 h2 => h j (by omega) (by omega)
      simp only [runs]
      rw [if_neg (fun e => h0 e.1), decide_eq_false h0]
      refine ⟨ih.1, fun _ => ?_⟩
      by_cases hm : 0 < m
      · exact ih.2 hm
      · have : m = 0 := by omega
        subst this
        rfl
theorem runs_all : ∀ (m i : Nat) (s : Nat × Bool), (∀ j, i ≤ j → j < i + m → T.at_ L j = 1) → runs T L m i s = (if 0 < m ∧ s.2 = false then s.1 + 1 else s.1, if 0 < m then true else s.2)
  | 0, _, _, _ => by simp [runs]
  | m + 1, i, s, h => by
      have h0 := h i (Nat.le_refl _) (by omega)
      simp only [runs]
      rw [runs_all m (i + 1) _ fun j h1 h2 => h j (by omega) (by omega), decide_eq_true h0]
      by_cases hs : s.2 = false
      · simp [h0, hs]
      · have hs' : s.2 = true := by simpa using hs
        simp [h0, hs']
theorem runs_add : ∀ (a b i : Nat) (s : Nat × Bool), runs T L (a + b) i s = runs T L b (i + a) (runs T L a i s)
  | 0, b, i, s => by simp [runs]
  | a + 1, b, i, s => by
      rw [show a + 1 + b = (a + b) + 1 by omega]
      simp only [runs]
      rw [runs_add a b (i + 1)]
      congr 1
      omega
end
end Go.Proofs.YtdojcgefiekleaaDoor
