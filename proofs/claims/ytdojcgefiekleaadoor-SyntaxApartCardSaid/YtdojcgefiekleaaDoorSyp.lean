/- Classes of characters and scans over a text: plain words. No condition but those written. -/
import Derived.Test.YtdojcgefiekleaaDoorUtf
namespace Go.Proofs.YtdojcgefiekleaaDoor
open Go.RowKit

/-- Does a number lie in a list of spans? -/
def inSpans (c : Int) (l : List (Int × Int)) : Bool := l.any fun p => decide (p.1 ≤ c ∧ c ≤ p.2)
def rising : List (Int × Int) → Prop
  | [] => True
  | p :: l => p.1 ≤ p.2 ∧ (∀ q ∈ l, p.2 < q.1) ∧ rising l
theorem rising.ends : ∀ {l : List (Int × Int)}, rising l → ∀ p ∈ l, p.1 ≤ p.2
  | [], _, _, h => by cases h
  | p :: l, hr, q, h => by
      rcases List.mem_cons.1 h with rfl | h
      · exact hr.1
      · exact rising.ends hr.2.2 q h
theorem rising.pair : ∀ {l : List (Int × Int)}, rising l → ∀ a b (h : a < b) (hb : b < l.length), (l[a]'(by omega)).2 < (l[b]).1
  | [], _, _, _, _, hb => absurd hb (by simp)
  | p :: l, hr, 0, b + 1, _, hb => hr.2.1 _ (by rw [List.getElem_cons_succ]; exact List.getElem_mem _)
  | p :: l, hr, a + 1, b + 1, h, hb => by
      rw [List.getElem_cons_succ]
      exact rising.pair hr.2.2 a b (by omega) (by simpa using hb)
def below (c : Int) (l : List (Int × Int)) : Nat := l.countP fun p => decide (p.2 < c)
theorem below_in (c : Int) : ∀ (l : List (Int × Int)), rising l → inSpans c l = (match l[below c l]? with | some p => decide (p.1 ≤ c) | none => false)
  | [], _ => by simp [inSpans, below]
  | p :: l, h => by
      by_cases hp : p.2 < c
      · have e : below c (p :: l) = below c l + 1 := by simp [below, hp]
        rw [e, List.getElem?_cons_succ, ← below_in c l h.2.2]
        have : ¬ (p.1 ≤ c ∧ c ≤ p.2) := by omega
        simp [inSpans, this]
      · have h0 : ∀ q ∈ l, ¬ q.2 < c := fun q hq => by
          have := h.2.1 q hq
          have := rising.ends h.2.2 q hq
          omega
        have e : below c (p :: l) = 0 := by
          simp only [below, List.countP_eq_zero]
          intro q hq
          rcases List.mem_cons.1 hq with rfl | hq
          · simpa using hp
          · simpa using h0 q hq
        rw [e]
        simp only [List.getElem?_cons_zero]
        rw [Bool.eq_iff_iff]
        simp only [inSpans, List.any_cons, Bool.or_eq_true, decide_eq_true_eq, List.any_eq_true]
        constructor
        · rintro (h1 | ⟨q, hq, h1⟩)
          · exact h1.1
          · have := h.2.1 q hq
            have := h.1
            omega
        · intro h1
          exact .inl ⟨h1, by omega⟩
def wordSpans : List (Int × Int) := [(48, 57), (65, 90), (97, 122), (0xaa, 0xaa), (0xb5, 0xb5), (0xba, 0xba), (0xc0, 0xd6), (0xd8, 0xf6), (0xf8, 0x24f), (0x300, 0x37d), (0x37f, 0x386), (0x388, 0x3ff), (0x400, 0x52f), (0x5d0, 0x5ea), (0x3041, 0x30ff), (0x3400, 0x9fff), (0xac00, 0xd7a3), (0x20000, 0x3fffd)]
theorem wordSpans_rising : rising wordSpans := by
  simp [wordSpans, rising]
def isWord (c : Int) : Bool := inSpans c wordSpans

/-- A character's class and mate in the table that New makes. -/
def plainE (c : Int) : Int × Int :=
  if c = 9 ∨ c = 10 ∨ c = 12 ∨ c = 13 ∨ c = 32 then (3, 0) else if isWord c then (1, 0) else (0, 0)
def special : List (Int × Int × Int) := [(40, 4, 41), (41, 5, 40), (91, 4, 93), (93, 5, 91), (34, 6, 0), (92, 7, 0), (59, 8, 0), (10, 9, 0), (39, 10, 0), (96, 10, 0), (44, 10, 0)]
def symbols : List Nat := [45, 43, 42, 47, 60, 62, 61, 33, 63, 36, 37, 38, 95, 126, 94, 58, 123, 125, 124, 46, 64, 35]
def pick (c : Int) (l : List (Int × Int × Int)) : Option (Int × Int) := (l.find? fun x => decide (x.1 = c)).map (·.2)
def lispE (c : Int) : Int × Int := (pick c special).getD (if c.toNat ∈ symbols ∧ 0 ≤ c then (2, 0) else plainE c)
/-- A table: which it is, and the rules that were set, the newest first. -/
structure Tb where
  lisp : Bool
  own : List (Int × Int × Int)
def isCh (c : Int) : Bool := decide (0 ≤ c ∧ c ≤ 1114111 ∧ (c < 55296 ∨ 57343 < c))
def Tb.ent (T : Tb) (c : Int) : Int × Int := if isCh c then (pick c T.own).getD (if T.lisp then lispE c else plainE c) else (0, 0)
def Tb.cl (T : Tb) (c : Int) : Int := (T.ent c).1
def Tb.mate (T : Tb) (c : Int) : Int := (T.ent c).2
def mated (k : Int) : Bool := decide (k = 4 ∨ k = 5)
def setOk (c k m : Int) : Bool := isCh c && decide (0 ≤ k ∧ k ≤ 10) && (!mated k || isCh m)
def Tb.set (T : Tb) (c k m : Int) : Tb := if setOk c k m then { T with own := (c, k, if mated k then m else 0) :: T.own } else T
theorem pick_range {P : Int × Int → Prop} : ∀ {l : List (Int × Int × Int)} {c : Int} {x : Int × Int}, (∀ y ∈ l, P y.2) → pick c l = some x → P x := by
  intro l c x h hp
  unfold pick at hp
  rw [Option.map_eq_some_iff] at hp
  obtain ⟨y, hy, rfl⟩ := hp
  exact h y (List.mem_of_find?_eq_some hy)
def Tb.Ok (T : Tb) : Prop := ∀ x ∈ T.own, isCh x.1 = true ∧ 0 ≤ x.2.1 ∧ x.2.1 ≤ 10 ∧ 0 ≤ x.2.2 ∧ x.2.2 ≤ 1114111
theorem plainE_range (c : Int) : 0 ≤ (plainE c).1 ∧ (plainE c).1 ≤ 10 ∧ 0 ≤ (plainE c).2 ∧ (plainE c).2 ≤ 1114111 := by
  unfold plainE; split
  · decide
  · split <;> decide
theorem lispE_range (c : Int) : 0 ≤ (lispE c).1 ∧ (lispE c).1 ≤ 10 ∧ 0 ≤ (lispE c).2 ∧ (lispE c).2 ≤ 1114111 := by
  unfold lispE
  cases h : pick c special with
  | none =>
      simp only [Option.getD_none]
      split
      · decide
      · exact plainE_range c
  | some x => exact pick_range (P := fun x : Int × Int => 0 ≤ x.1 ∧ x.1 ≤ 10 ∧ 0 ≤ x.2 ∧ x.2 ≤ 1114111) (by decide) h
theorem Tb.Ok.range {T : Tb} (h : T.Ok) (c : Int) : 0 ≤ T.cl c ∧ T.cl c ≤ 10 ∧ 0 ≤ T.mate c ∧ T.mate c ≤ 1114111 := by
  unfold Tb.cl Tb.mate Tb.ent
  split
  · cases hp : pick c T.own with
    | none =>
        simp only [Option.getD_none]
        split
        · exact lispE_range c
        · exact plainE_range c
    | some x =>
        exact pick_range (P := fun x : Int × Int => 0 ≤ x.1 ∧ x.1 ≤ 10 ∧ 0 ≤ x.2 ∧ x.2 ≤ 1114111) (fun y hy => (h y hy).2) hp
  · decide
theorem Tb.Ok.set {T : Tb} (h : T.Ok) (c k m : Int) : (T.set c k m).Ok := by
  unfold Tb.set
  split
  · rename_i hs
    simp only [setOk, Bool.and_eq_true, decide_eq_true_eq, Bool.or_eq_true, Bool.not_eq_true'] at hs
    intro x hx
    rcases List.mem_cons.1 hx with rfl | hx
    · refine ⟨hs.1.1, hs.1.2.1, hs.1.2.2, ?_⟩
      cases hm : mated k
      · simp
      · have := hs.2
        rw [hm] at this
        simp only [Bool.true_eq_false, false_or, isCh, decide_eq_true_eq] at this
        simp only [if_true]
        exact ⟨this.1, this.2.1⟩
    · exact h x hx
  · exact h
end Go.Proofs.YtdojcgefiekleaaDoor
