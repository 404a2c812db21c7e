/- What holds of a log behind each call: plain laws. No condition but those written. -/
import Derived.Test.YtghcmakhfdnimaaDoorUndK
namespace Go.Proofs.YtghcmakhfdnimaaDoor
open Go.RowKit

theorem lengthen_eq {l : List Chg} {x : Chg} {t : Int} (h : l[l.length - 1]? = some x) : lengthen l t = l.set (l.length - 1) { x with t := t } := by
  unfold lengthen
  rw [h]
theorem joins_yes {s : Lg} {c : Chg} (h : s.joins c = true) : ∃ x, s.O[s.O.length - 1]? = some x ∧ c.k = 1 ∧ x.k = 1 ∧ x.t = c.a := by
  unfold Lg.joins at h
  split at h
  · rename_i x hx
    simp at h
    exact ⟨x, hx, h⟩
  · cases h
theorem total_set {l : List Chg} {i : Nat} {x y : Chg} (h : l[i]? = some x) (hp : y.price = x.price) : total (l.set i y) = total l := by
  induction l generalizing i with
  | nil => simp at h
  | cons z l ih =>
    cases i with
    | zero =>
      simp at h
      subst h
      rw [List.set_cons_zero, total_cons, total_cons, hp]
    | succ i => rw [List.set_cons_succ, total_cons, total_cons, ih (by simpa using h)]
theorem price_t (x : Chg) (t : Int) : ({ x with t := t } : Chg).price = x.price := rfl
theorem Good.clear {s : Lg} (h : Good s) : Good s.clear := ⟨h.lim1, h.lim2, rfl, rfl, by show (-1 : Int) ≤ -1; omega, by show (-1 : Int) ≤ ((0 : Nat) : Int); omega⟩
theorem Good.push {s : Lg} (h : Good s) (c : Chg) : Good (s.push c) := by
  refine ⟨h.lim1, h.lim2, ?_, ?_, h.ch1, h.ch2⟩
  · show s.cost + (c.price : Int) = ((sumG s.G + total (s.O ++ [c]) : Nat) : Int)
    rw [total_append, total_cons, total_nil, h.cost]
    omega
  · show s.now + (c.price : Int) = ((total (s.O ++ [c]) : Nat) : Int)
    rw [total_append, total_cons, total_nil, h.now]
    omega
theorem Good.add {s : Lg} (h : Good s) (c : Chg) : Good (s.add c) := by
  unfold Lg.add
  split
  · unfold Lg.add0
    split
    · rename_i hj
      obtain ⟨x, hx, _⟩ := joins_yes hj
      have e : total (lengthen s.O c.t) = total s.O := by rw [lengthen_eq hx]; exact total_set hx (price_t x c.t)
      exact ⟨h.lim1, h.lim2, by show s.cost = ((sumG s.G + total (lengthen s.O c.t) : Nat) : Int); rw [e]; exact h.cost, by show s.now = ((total (lengthen s.O c.t) : Nat) : Int); rw [e]; exact h.now, h.ch1, h.ch2⟩
    · split
      · exact h.clear.push c
      · exact h.push c
  · exact h
theorem Good.undo {s : Lg} (h : Good s) (again : Bool) : Good (s.undo again) := by
  have hc := h.close
  refine ⟨hc.lim1, hc.lim2, hc.cost, hc.now, ?_, ?_⟩
  · show (-1 : Int) ≤ if s.close.chain0 again = 0 then 0 else s.close.chain0 again - 1
    have h1 := hc.ch1
    unfold Lg.chain0
    split <;> split <;> omega
  · show (if s.close.chain0 again = 0 then 0 else s.close.chain0 again - 1) ≤ (s.close.G.length : Int)
    have h1 := hc.ch2
    unfold Lg.chain0
    split <;> split <;> omega
theorem Good.new {lim : Int} (h1 : 1 ≤ lim) (h2 : lim ≤ 1048576) : Good (Lg.new lim) := ⟨h1, h2, rfl, rfl, by show (-1 : Int) ≤ -1; omega, by show (-1 : Int) ≤ ((0 : Nat) : Int); omega⟩

/-- How great a log is behind n changes of short texts. -/
structure Sized (s : Lg) (n : Nat) : Prop where
  cost : s.cost ≤ 201 * (n : Int)
  many : s.all.length ≤ n
  len : ∀ g ∈ s.all, g.length ≤ n
  txt : ∀ g ∈ s.all, ∀ c ∈ g, c.tx.size ≤ 200
theorem Sized.new (lim : Int) : Sized (Lg.new lim) 0 := ⟨by show (0 : Int) ≤ 201 * ((0 : Nat) : Int); omega, Nat.le_refl _, fun g hg => by simp [Lg.all, Lg.new] at hg, fun g hg => by simp [Lg.all, Lg.new] at hg⟩
theorem mem_all_G {s : Lg} {g : List Chg} (h : g ∈ s.G) : g ∈ s.all := by
  unfold Lg.all
  split
  · exact h
  · exact List.mem_append_left _ h
theorem mem_all_O {s : Lg} (h : s.O ≠ []) : s.O ∈ s.all := by
  unfold Lg.all
  rw [if_neg h]
  simp
theorem Sized.lenO {s : Lg} {n : Nat} (h : Sized s n) : s.O.length ≤ n := by
  by_cases e : s.O = []
  · rw [e]; simp
  · exact h.len _ (mem_all_O e)
theorem Sized.txtO {s : Lg} {n : Nat} (h : Sized s n) : ∀ c ∈ s.O, c.tx.size ≤ 200 := fun c hc => h.txt _ (mem_all_O (fun e => by rw [e] at hc; cases hc)) c hc
theorem Sized.manyG {s : Lg} {n : Nat} (h : Sized s n) : s.G.length ≤ n := Nat.le_trans (all_len s).1 h.many
theorem Sized.small {s : Lg} {n : Nat} (h : Sized s n) (hn : n ≤ 100000) : Small s :=
  ⟨by have := h.cost; omega, by have := h.manyG; omega, fun g hg => by have := h.len g (mem_all_G hg); omega, by have := h.lenO; omega, fun g hg c hc => by have := h.txt g (mem_all_G hg) c hc; omega, fun c hc => by have := h.txtO c hc; omega⟩
theorem Sized.mono {s : Lg} {n m : Nat} (h : Sized s n) (hm : n ≤ m) : Sized s m :=
  ⟨by have := h.cost; omega, Nat.le_trans h.many hm, fun g hg => Nat.le_trans (h.len g hg) hm, h.txt⟩
theorem all_append (s : Lg) (h : s.O ≠ []) : s.all = s.G ++ [s.O] := by unfold Lg.all; rw [if_neg h]
theorem Sized.push {s : Lg} {n : Nat} (h : Sized s n) {c : Chg} (hc : c.tx.size ≤ 200) : Sized (s.push c) (n + 1) := by
  have hp := price_le c
  have ha : (s.push c).all = s.G ++ [s.O ++ [c]] := all_append (s.push c) (by show s.O ++ [c] ≠ []; simp)
  refine ⟨?_, ?_, ?_, ?_⟩
  · show s.cost + (c.price : Int) ≤ _
    have := h.cost
    omega
  · rw [ha]
    have := h.manyG
    simp
    omega
  · intro g hg
    rw [ha] at hg
    rcases List.mem_append.1 hg with hg | hg
    · have := h.len g (mem_all_G hg); omega
    · simp at hg
      subst hg
      have := h.lenO
      simp
      omega
  · intro g hg d hd
    rw [ha] at hg
    rcases List.mem_append.1 hg with hg | hg
    · exact h.txt g (mem_all_G hg) d hd
    · simp at hg
      subst hg
      rcases List.mem_append.1 hd with hd | hd
      · exact h.txtO d hd
      · simp at hd
        subst hd
        exact hc
theorem Sized.clear {s : Lg} {n : Nat} : Sized s.clear n := ⟨by show (0 : Int) ≤ _; omega, by simp [Lg.all, Lg.clear], fun g hg => by simp [Lg.all, Lg.clear] at hg, fun g hg => by simp [Lg.all, Lg.clear] at hg⟩
theorem Sized.add {s : Lg} {n : Nat} (h : Sized s n) {c : Chg} (hc : c.tx.size ≤ 200) : Sized (s.add c) (n + 1) := by
  unfold Lg.add
  split
  · unfold Lg.add0
    split
    · rename_i hj
      obtain ⟨x, hx, _⟩ := joins_yes hj
      have hO : s.O ≠ [] := fun e => by rw [e] at hx; simp at hx
      have hle := lengthen_eq (t := c.t) hx
      have hne : lengthen s.O c.t ≠ [] := fun e => by rw [hle] at e; have := congrArg List.length e; simp at this; exact hO this
      have ha : ({ s with O := lengthen s.O c.t } : Lg).all = s.G ++ [lengthen s.O c.t] := all_append _ hne
      have hb := all_append s hO
      refine ⟨by have := h.cost; show s.cost ≤ _; omega, ?_, ?_, ?_⟩
      · rw [ha]
        have := h.many
        rw [hb] at this
        simp at this ⊢
        omega
      · intro g hg
        rw [ha] at hg
        rcases List.mem_append.1 hg with hg | hg
        · have := h.len g (mem_all_G hg); omega
        · simp at hg
          subst hg
          rw [hle, List.length_set]
          have := h.lenO
          omega
      · intro g hg d hd
        rw [ha] at hg
        rcases List.mem_append.1 hg with hg | hg
        · exact h.txt g (mem_all_G hg) d hd
        · simp at hg
          subst hg
          rw [hle] at hd
          rcases List.mem_or_eq_of_mem_set hd with hd | rfl
          · exact h.txtO d hd
          · exact h.txtO x (List.mem_of_getElem? hx)
    · split
      · exact Sized.clear.push hc
      · exact h.push hc
  · exact h.mono (by omega)
theorem close_all {s : Lg} (h : Good s) : s.close.all = s.close.G := by unfold Lg.all; rw [if_pos (close_O h)]
theorem Sized.close {s : Lg} {n : Nat} (h : Sized s n) (hg : Good s) : Sized s.close n := by
  obtain ⟨_, _, _, h4, h5, _⟩ := close_facts hg
  refine ⟨Int.le_trans h5 h.cost, ?_, ?_, ?_⟩
  · rw [close_all hg]; exact Nat.le_trans h4.length_le h.many
  · rw [close_all hg]; exact fun g hgm => h.len g (h4.subset hgm)
  · rw [close_all hg]; exact fun g hgm => h.txt g (h4.subset hgm)
theorem Sized.undo {s : Lg} {n : Nat} (h : Sized s n) (hg : Good s) (again : Bool) : Sized (s.undo again) n := by
  have := h.close hg
  exact ⟨this.cost, this.many, this.len, this.txt⟩
theorem undone_len {s : Lg} {n : Nat} (h : Sized s n) (hg : Good s) (again : Bool) : (s.undone again).length ≤ n := by
  show (if s.close.chain0 again = 0 then [] else ((s.close.G[(s.close.chain0 again - 1).toNat]?).getD []).reverse).length ≤ n
  split
  · simp
  · rw [List.length_reverse]
    cases hx : s.close.G[(s.close.chain0 again - 1).toNat]? with
    | none => simp
    | some g => exact (h.close hg).len g (mem_all_G (List.mem_of_getElem? hx))
end Go.Proofs.YtghcmakhfdnimaaDoor
