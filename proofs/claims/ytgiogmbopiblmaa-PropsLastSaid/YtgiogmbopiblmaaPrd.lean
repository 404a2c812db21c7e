/- Lists of properties, and where they change: plain laws. No condition but those written. -/
import Derived.Test.YtgiogmbopiblmaaPrc
namespace Go.Proofs.Ytgiogmbopiblmaa

/-- A list with a property. -/
def withP : List Pr → Pr → List Pr
  | [], x => [x]
  | y :: l, x => if y.1 < x.1 then y :: withP l x else if y.1 = x.1 then x :: l else x :: y :: l
/-- A list without a name. -/
def withoutP (l : List Pr) (n : Int) : List Pr := l.filter fun y => decide (y.1 ≠ n)
/-- The value of a name. -/
def getP (l : List Pr) (n : Int) : Option (Int × Int) := (l.find? fun y => decide (y.1 = n)).map (·.2)
/-- Names in ascending order. -/
def Asc17 (l : List Pr) : Prop := l.Pairwise fun a b => a.1 < b.1
theorem withP_mem {x : Pr} : ∀ {l : List Pr} {y : Pr}, y ∈ withP l x → y = x ∨ y ∈ l
  | [], y, h => by simp [withP] at h; exact .inl h
  | z :: l, y, h => by
      unfold withP at h
      split at h
      · rcases List.mem_cons.1 h with rfl | h
        · exact .inr (List.mem_cons_self ..)
        · rcases withP_mem h with rfl | h
          · exact .inl rfl
          · exact .inr (List.mem_cons_of_mem _ h)
      · split at h
        · rcases List.mem_cons.1 h with rfl | h
          · exact .inl rfl
          · exact .inr (List.mem_cons_of_mem _ h)
        · rcases List.mem_cons.1 h with rfl | h
          · exact .inl rfl
          · exact .inr h
theorem withP_asc {x : Pr} : ∀ {l : List Pr}, Asc17 l → Asc17 (withP l x)
  | [], _ => by simp [withP, Asc17]
  | z :: l, h => by
      obtain ⟨h1, h2⟩ := List.pairwise_cons.1 h
      unfold withP
      split
      · rename_i hz
        refine List.pairwise_cons.2 ⟨fun y hy => ?_, withP_asc h2⟩
        rcases withP_mem hy with rfl | hy
        · exact hz
        · exact h1 y hy
      · split
        · rename_i hz hz2
          exact List.pairwise_cons.2 ⟨fun y hy => by have := h1 y hy; omega, h2⟩
        · rename_i hz hz2
          refine List.pairwise_cons.2 ⟨fun y hy => ?_, h⟩
          rcases List.mem_cons.1 hy with rfl | hy
          · omega
          · have := h1 y hy
            omega
theorem withP_ne (l : List Pr) (x : Pr) : withP l x ≠ [] := by
  cases l with
  | nil => simp [withP]
  | cons z l =>
    unfold withP
    split
    · simp
    · split <;> simp
theorem withP_len (x : Pr) : ∀ l : List Pr, l.length ≤ (withP l x).length ∧ (withP l x).length ≤ l.length + 1
  | [] => by simp [withP]
  | z :: l => by
      have := withP_len x l
      unfold withP
      split
      · simp; omega
      · split <;> simp
theorem withoutP_asc {l : List Pr} (n : Int) (h : Asc17 l) : Asc17 (withoutP l n) := h.sublist List.filter_sublist
theorem getP_with {x : Pr} (n : Int) : ∀ {l : List Pr}, Asc17 l → getP (withP l x) n = if n = x.1 then some x.2 else getP l n
  | [], _ => by
      by_cases h : n = x.1
      · simp [withP, getP, h]
      · have h2 : ¬ x.1 = n := fun e => h e.symm
        simp [withP, getP, h, h2]
  | z :: l, ha => by
      obtain ⟨h1, h2⟩ := List.pairwise_cons.1 ha
      have ih := getP_with (x := x) n h2
      unfold withP
      split
      · rename_i hz
        by_cases hn : z.1 = n
        · rw [if_neg (by omega)]
          simp [getP, hn]
        · have e1 : getP (z :: withP l x) n = getP (withP l x) n := by simp [getP, hn]
          have e2 : getP (z :: l) n = getP l n := by simp [getP, hn]
          rw [e1, e2, ih]
      · split
        · rename_i hz hz2
          by_cases hn : n = x.1
          · rw [if_pos hn]
            simp [getP, hn]
          · rw [if_neg hn]
            have e1 : ¬ x.1 = n := fun e => hn e.symm
            have e2 : ¬ z.1 = n := by omega
            simp [getP, e1, e2]
        · rename_i hz hz2
          by_cases hn : n = x.1
          · rw [if_pos hn]
            simp [getP, hn]
          · rw [if_neg hn]
            have : ¬ x.1 = n := fun e => hn e.symm
            simp [getP, this]
theorem getP_without (n m : Int) : ∀ l : List Pr, getP (withoutP l m) n = if n = m then none else getP l n
  | [] => by simp [withoutP, getP]
  | z :: l => by
      have ih := getP_without n m l
      unfold withoutP at ih ⊢
      by_cases hz : z.1 = m
      · rw [List.filter_cons_of_neg (by simp [hz]), ih]
        by_cases hn : n = m
        · rw [if_pos hn, if_pos hn]
        · rw [if_neg hn, if_neg hn]
          have : ¬ z.1 = n := by omega
          simp [getP, this]
      · rw [List.filter_cons_of_pos (by simp [hz])]
        by_cases hzn : z.1 = n
        · rw [if_neg (by omega)]
          simp [getP, hzn]
        · have e1 : ∀ t : List Pr, getP (z :: t) n = getP t n := fun t => by simp [getP, hzn]
          rw [e1, e1, ih]
theorem getP_nil (n : Int) : getP [] n = none := rfl
/-! ### Boundaries -/
def bnds (P : List Pc) : List Nat := P.flatMap fun p => [p.fr, p.to]
theorem den_const : ∀ {P : List Pc} {b i : Nat}, b ≤ i → (∀ c ∈ bnds P, ¬ (b < c ∧ c ≤ i)) → den P b = den P i
  | [], _, _, _, _ => rfl
  | p :: P, b, i, hbi, h => by
      have h1 := h p.fr (by simp [bnds])
      have h2 := h p.to (by simp [bnds])
      have ih := den_const (P := P) hbi fun c hc => h c (by
        unfold bnds at hc ⊢
        rw [List.flatMap_cons]
        exact List.mem_append_right _ hc)
      unfold den
      by_cases hp : p.fr ≤ b ∧ b < p.to
      · rw [if_pos hp, if_pos (by omega)]
      · rw [if_neg hp, if_neg (by omega)]
        exact ih
theorem bnds_ge : ∀ {P : List Pc} {b : Nat} {q : List Pr}, Nf b q P → ∀ c ∈ bnds P, b ≤ c
  | [], _, _, _, c, hc => by simp [bnds] at hc
  | p :: P, b, q, h, c, hc => by
      obtain ⟨h1, h2, _, _, h5⟩ := h
      unfold bnds at hc
      rw [List.flatMap_cons] at hc
      rcases List.mem_append.1 hc with hc | hc
      · simp at hc
        omega
      · have := bnds_ge h5 c hc
        omega
theorem bnds_asc : ∀ {P : List Pc} {b : Nat} {q : List Pr}, Nf b q P → (bnds P).Pairwise (· ≤ ·)
  | [], _, _, _ => by simp [bnds]
  | p :: P, b, q, h => by
      obtain ⟨h1, h2, _, _, h5⟩ := h
      unfold bnds
      rw [List.flatMap_cons]
      refine List.pairwise_append.2 ⟨by simp; omega, bnds_asc h5, fun x hx y hy => ?_⟩
      have := bnds_ge h5 y hy
      simp at hx
      omega
/-- What a character at any place has. -/
def denI (P : List Pc) (x : Int) : List Pr := if x < 0 then [] else den P x.toNat
/-- The next place behind one at which a comparison of lists fails. -/
def nextP (same : List Pr → List Pr → Bool) (P : List Pc) (at_ most : Int) : Int :=
  match (bnds P).find? fun (b : Nat) => decide (at_ < (b : Int)) && decide ((b : Int) < most) && !same (denI P at_) (den P b) with
  | some b => (b : Int)
  | none => most
theorem den_zero {P : List Pc} (h : ∀ p ∈ P, 1 ≤ p.fr) : den P 0 = [] := by
  induction P with
  | nil => rfl
  | cons p P ih =>
    have := h p (List.mem_cons_self ..)
    unfold den
    rw [if_neg (by omega)]
    exact ih fun q hq => h q (List.mem_cons_of_mem _ hq)
theorem last_bnd (P : List Pc) (a i : Nat) : (∃ b ∈ bnds P, a < b ∧ b ≤ i ∧ ∀ c ∈ bnds P, ¬ (b < c ∧ c ≤ i)) ∨ ∀ c ∈ bnds P, ¬ (a < c ∧ c ≤ i) := by
  generalize bnds P = L
  induction L with
  | nil => exact .inr fun c hc => by cases hc
  | cons z L ih =>
    rcases ih with ⟨b, hb, h1, h2, h3⟩ | h
    · by_cases hz : b < z ∧ z ≤ i
      · refine .inl ⟨z, List.mem_cons_self .., by omega, hz.2, fun c hc => ?_⟩
        rcases List.mem_cons.1 hc with rfl | hc
        · omega
        · have := h3 c hc
          omega
      · refine .inl ⟨b, List.mem_cons_of_mem _ hb, h1, h2, fun c hc => ?_⟩
        rcases List.mem_cons.1 hc with rfl | hc
        · exact hz
        · exact h3 c hc
    · by_cases hz : a < z ∧ z ≤ i
      · refine .inl ⟨z, List.mem_cons_self .., hz.1, hz.2, fun c hc => ?_⟩
        rcases List.mem_cons.1 hc with rfl | hc
        · omega
        · have := h c hc
          omega
      · refine .inr fun c hc => ?_
        rcases List.mem_cons.1 hc with rfl | hc
        · exact hz
        · exact h c hc
theorem find_first {p : Nat → Bool} : ∀ {L : List Nat} {b : Nat}, L.Pairwise (· ≤ ·) → L.find? p = some b → b ∈ L ∧ p b = true ∧ ∀ c ∈ L, c < b → p c = false
  | [], b, _, h => by simp at h
  | z :: L, b, ha, h => by
      obtain ⟨h1, h2⟩ := List.pairwise_cons.1 ha
      rw [List.find?_cons] at h
      cases hz : p z with
      | true =>
        rw [hz] at h
        simp only [Option.some.injEq] at h
        subst h
        refine ⟨List.mem_cons_self .., hz, fun c hc hlt => ?_⟩
        rcases List.mem_cons.1 hc with rfl | hc
        · omega
        · have := h1 c hc
          omega
      | false =>
        rw [hz] at h
        obtain ⟨g1, g2, g3⟩ := find_first h2 h
        refine ⟨List.mem_cons_of_mem _ g1, g2, fun c hc hlt => ?_⟩
        rcases List.mem_cons.1 hc with rfl | hc
        · exact hz
        · exact g3 c hc hlt
/-- The law of the next place. -/
theorem next_law {same : List Pr → List Pr → Bool} (hs : ∀ l, same l l = true) {P : List Pc} (hn : Nf 0 [] P) (h1 : ∀ p ∈ P, 1 ≤ p.fr) (at_ most : Int) :
    (nextP same P at_ most = most ∨ (at_ < nextP same P at_ most ∧ nextP same P at_ most < most ∧ 1 ≤ nextP same P at_ most ∧ nextP same P at_ most ∈ (bnds P).map (fun b : Nat => (b : Int)) ∧ same (denI P at_) (denI P (nextP same P at_ most)) = false)) ∧
    ∀ i : Nat, at_ < (i : Int) → (i : Int) < most → (i : Int) < nextP same P at_ most → same (denI P at_) (den P i) = true := by
  have hb1 : ∀ c ∈ bnds P, 1 ≤ c := fun c hc => by
    unfold bnds at hc
    obtain ⟨p, hp, hc2⟩ := List.mem_flatMap.1 hc
    have := h1 p hp
    obtain ⟨A, B, rfl⟩ := List.append_of_mem hp
    have h2 := (Nf.app.1 hn).2.2.1
    simp at hc2
    rcases hc2 with e | e <;> omega
  -- every place that no bad boundary lies ahead of is alike
  have key : ∀ i : Nat, at_ < (i : Int) → (∀ c ∈ bnds P, at_ < (c : Int) → c ≤ i → same (denI P at_) (den P c) = true) → same (denI P at_) (den P i) = true := by
    intro i hi hc
    by_cases h0 : at_ < 0
    · have e0 : denI P at_ = [] := if_pos h0
      rcases last_bnd P 0 i with ⟨b, hb, g1, g2, g3⟩ | g
      · rw [← den_const g2 g3]
        exact hc b hb (by omega) g2
      · rw [← den_const (Nat.zero_le i) g, den_zero h1, e0]
        exact hs []
    · obtain ⟨a, rfl⟩ : ∃ a : Nat, at_ = (a : Int) := ⟨at_.toNat, by omega⟩
      have e0 : denI P (a : Int) = den P a := by unfold denI; rw [if_neg h0, Int.toNat_natCast]
      rcases last_bnd P a i with ⟨b, hb, g1, g2, g3⟩ | g
      · rw [← den_const g2 g3]
        exact hc b hb (by omega) g2
      · rw [← den_const (by omega) g, e0]
        exact hs _
  unfold nextP
  cases hf : (bnds P).find? fun (b : Nat) => decide (at_ < (b : Int)) && decide ((b : Int) < most) && !same (denI P at_) (den P b) with
  | some b =>
    obtain ⟨g1, g2, g3⟩ := find_first (bnds_asc hn) hf
    simp only [Bool.and_eq_true, decide_eq_true_eq, Bool.not_eq_true'] at g2
    have hb := hb1 b g1
    refine ⟨.inr ⟨g2.1.1, g2.1.2, by simp only []; omega, List.mem_map.2 ⟨b, g1, rfl⟩, ?_⟩, fun i hi hm hlt => ?_⟩
    · show same _ (denI P (b : Int)) = false
      unfold denI
      rw [if_neg (show ¬ (b : Int) < 0 by omega), Int.toNat_natCast]
      exact g2.2
    · simp only at hlt
      refine key i hi fun c hc hac hci => ?_
      have := g3 c hc (by omega)
      simp only [Bool.and_eq_false_iff, decide_eq_false_iff_not, Bool.not_eq_false'] at this
      rcases this with (h | h) | h
      · omega
      · omega
      · exact h
  | none =>
    refine ⟨.inl rfl, fun i hi hm _ => ?_⟩
    refine key i hi fun c hc hac hci => ?_
    have := List.find?_eq_none.1 hf c hc
    simp only [Bool.and_eq_true, decide_eq_true_eq, Bool.not_eq_true', not_and, Bool.not_eq_false, and_imp] at this
    exact this hac (by omega)
end Go.Proofs.Ytgiogmbopiblmaa
