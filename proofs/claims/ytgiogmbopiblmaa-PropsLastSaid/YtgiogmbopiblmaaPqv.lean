/- PropsLast: plain laws of what was put on a character last. No condition but those written. -/
import Derived.Test.YtgiogmbopiblmaaPqn
namespace Go.Proofs.Ytgiogmbopiblmaa

/-- What lies on a character. -/
def lastAt (H : List Bool) (V : List (Int × Int)) (i : Nat) : Option (Int × Int) := if H[i]? = some true then V[i]? else none
/-- Pieces of one name, and the two lists of the law. -/
structure Lst (P : List Pc) (nm : Int) (H : List Bool) (V : List (Int × Int)) : Prop where
  good : Good P 64
  only : ∀ x, ∀ y ∈ den P x, y.1 = nm
  len : V.length = H.length
  val : ∀ i, getP (den P (i + 1)) nm = lastAt H V i
section
variable {P : List Pc} {nm : Int} {H : List Bool} {V : List (Int × Int)} {N : Nat}
theorem one_only {q : List Pr} (ha : Asc17 q) (ho : ∀ y ∈ q, y.1 = nm) : q.length ≤ 1 := by
  match q, ha, ho with
  | [], _, _ => simp
  | [_], _, _ => simp
  | x :: y :: r, ha, ho =>
    have h1 := (List.pairwise_cons.1 ha).1 y (by simp)
    have h2 := ho x (by simp)
    have h3 := ho y (by simp)
    omega
theorem get_some {q : List Pr} (hq : q ≠ []) (ho : ∀ y ∈ q, y.1 = nm) : getP q nm ≠ none := by
  cases q with
  | nil => exact absurd rfl hq
  | cons x r =>
    unfold getP
    rw [List.find?_cons_of_pos (by simpa using ho x (by simp))]
    simp
theorem full_no {n : Nat} (hg : Good P N) (ho : ∀ x, ∀ y ∈ den P x, y.1 = nm) (hz : ∀ x, n < x → den P x = []) (hn : n ≤ 1000) : fullP P = false := by
  unfold fullP
  rw [Bool.or_eq_false_iff]
  constructor
  · have h1 := hg.nf.count
    have h2 : (lastE 0 [] P).1 ≤ n + 1 := by
      rcases snoc_cases P with rfl | ⟨k, p, rfl⟩
      · simp [lastE]
      · have e := endP_snoc k p
        unfold endP at e
        rw [e]
        obtain ⟨m1, m2, m3, m4, _⟩ := hg.mem (p := p) (by simp)
        have h3 := (hg.nf.den_mem p (by simp)).2.2.2 (p.to - 1) (by omega) (by omega)
        by_cases hc : p.to ≤ n + 1
        · exact hc
        · rw [hz _ (by omega)] at h3
          exact absurd h3.symm m4
    simp
    omega
  · rw [List.any_eq_false]
    intro p hp
    unfold fatP
    obtain ⟨_, h1, h2, h3⟩ := hg.nf.den_mem p hp
    have e := h3 p.fr (Nat.le_refl _) h1
    have := one_only (nm := nm) (e ▸ hg.asc p.fr) (e ▸ ho p.fr)
    simp
    omega
theorem Lst.high (h : Lst P nm H V) {x : Nat} (hx : H.length < x) : den P x = [] := by
  by_cases he : den P x = []
  · exact he
  · exfalso
    have h1 := get_some he (h.only x)
    obtain ⟨y, rfl⟩ : ∃ y, x = y + 1 := ⟨x - 1, by omega⟩
    rw [h.val y] at h1
    unfold lastAt at h1
    rw [List.getElem?_eq_none (by omega), if_neg (by simp)] at h1
    exact h1 rfl
theorem Lst.at_lt (h : Lst P nm H V) {k : Nat} {b : Bool} {v : Int × Int} (hb : H[k]? = some b) (hv : V[k]? = some v) : getP (den P (k + 1)) nm = if b then some v else none := by
  rw [h.val k]
  unfold lastAt
  rw [hb, hv]
  cases b <;> rfl
theorem Lst.at_ge (h : Lst P nm H V) {k : Nat} (hk : H.length ≤ k) : getP (den P (k + 1)) nm = none := by
  rw [h.high (by omega)]
  rfl
theorem withP_only {q : List Pr} (ho : ∀ y ∈ q, y.1 = nm) (v : Int × Int) : ∀ y ∈ withP q (nm, v), y.1 = nm := by
  intro y hy
  rcases withP_mem hy with rfl | hy
  · rfl
  · exact ho y hy
theorem Lst.put (h : Lst P nm H V) (hn : 0 ≤ nm) (hl : H.length ≤ 1000) {a b : Nat} (h1 : 1 ≤ a) (h2 : a ≤ b) (h3 : b ≤ H.length + 1) (v : Int × Int) :
    putE P a b (nm, v) = 0 ∧ ∀ (H' : List Bool) (V' : List (Int × Int)), V'.length = H'.length → (∀ i, H'[i]? = if a ≤ i + 1 ∧ i + 1 < b then some true else H[i]?) → (∀ i, V'[i]? = if a ≤ i + 1 ∧ i + 1 < b then some v else V[i]?) → Lst (putP P a b (nm, v)) nm H' V' := by
  have hc : chkE (a : Int) (b : Int) nm = 0 := by
    unfold chkE
    rw [if_pos (by omega), if_neg (by omega)]
  obtain ⟨g1, g2⟩ := change_law (fun q => withP q (nm, v)) h.good.nf h2
  have hgc : Good (changeP a b (fun q => withP q (nm, v)) P) 65 := h.good.change h1 h2 (by omega) (fun q hq => hq.with_ hn) (by omega)
  have ho : ∀ x, ∀ y ∈ den (changeP a b (fun q => withP q (nm, v)) P) x, y.1 = nm := by
    intro x y hy
    rw [g2] at hy
    unfold tgt at hy
    split at hy
    · exact withP_only (h.only x) v y hy
    · exact h.only x y hy
  have hf : fullP (changeP a b (fun q => withP q (nm, v)) P) = false := full_no (n := H.length) hgc ho (fun x hx => by
    rw [g2]
    unfold tgt
    rw [if_neg (by omega)]
    exact h.high hx) hl
  have hE : putE P a b (nm, v) = 0 := by
    unfold putE
    rw [if_neg (by simpa using hc), Int.toNat_natCast, Int.toNat_natCast, hf]
    rfl
  have hP : putP P a b (nm, v) = changeP a b (fun q => withP q (nm, v)) P := by
    unfold putP
    rw [if_neg (by simpa using hc), Int.toNat_natCast, Int.toNat_natCast, hf]
    rfl
  refine ⟨hE, fun H' V' hl hH hV => ⟨h.good.putQ (by omega) _ _ _, by rw [hP]; exact ho, hl, fun i => ?_⟩⟩
  rw [hP, g2]
  unfold lastAt tgt
  rw [hH, hV]
  by_cases hi : a ≤ i + 1 ∧ i + 1 < b
  · rw [if_pos hi, if_pos hi, if_pos hi, if_pos rfl, getP_with nm (h.good.asc _), if_pos rfl]
  · rw [if_neg hi, if_neg hi, if_neg hi]
    exact h.val i
theorem Lst.take_ (h : Lst P nm H V) (hn : 0 ≤ nm) (hl : H.length ≤ 1000) {a b : Nat} (h1 : 1 ≤ a) (h2 : a ≤ b) (h3 : b ≤ H.length + 1) :
    chkE a b nm = 0 ∧ ∀ (H' : List Bool) (V' : List (Int × Int)) (v : Int × Int), V'.length = H'.length → (∀ i, H'[i]? = if a ≤ i + 1 ∧ i + 1 < b then some false else H[i]?) → (∀ i, V'[i]? = if a ≤ i + 1 ∧ i + 1 < b then some v else V[i]?) → Lst (takeP P a b nm) nm H' V' := by
  have hc : chkE (a : Int) (b : Int) nm = 0 := by
    unfold chkE
    rw [if_pos (by omega), if_neg (by omega)]
  obtain ⟨g1, g2⟩ := change_law (fun q => withoutP q nm) h.good.nf h2
  have hP : takeP P a b nm = changeP a b (fun q => withoutP q nm) P := by
    unfold takeP
    rw [if_neg (by simpa using hc), Int.toNat_natCast, Int.toNat_natCast]
  refine ⟨hc, fun H' V' v hl hH hV => ⟨h.good.takeQ _ _ _, fun x y hy => ?_, hl, fun i => ?_⟩⟩
  · rw [hP, g2] at hy
    unfold tgt at hy
    split at hy
    · exact h.only x y (List.mem_filter.1 hy).1
    · exact h.only x y hy
  · rw [hP, g2]
    unfold lastAt tgt
    rw [hH, hV]
    by_cases hi : a ≤ i + 1 ∧ i + 1 < b
    · rw [if_pos hi, if_pos hi, if_neg (by simp), getP_without, if_pos rfl]
    · rw [if_neg hi, if_neg hi, if_neg hi]
      exact h.val i
theorem Lst.ins_ (h : Lst P nm H V) (hl : H.length ≤ 1000) {a m : Nat} (h1 : 1 ≤ a) (h2 : a ≤ H.length + 1) (hm : m ≤ 3) :
    insE P a m = 0 ∧ Lst (insQ P a m) nm (H.take (a - 1) ++ List.replicate m false ++ H.drop (a - 1)) (V.take (a - 1) ++ List.replicate m (0, 0) ++ V.drop (a - 1)) := by
  have hend : endP P ≤ H.length + 1 := by
    rcases snoc_cases P with e | ⟨k, p, e⟩
    · rw [e]
      simp [endP, lastE]
    · have hp : p ∈ P := by rw [e]; simp
      rw [e, endP_snoc]
      obtain ⟨m1, m2, m3, m4, _⟩ := h.good.mem hp
      have h3 := (h.good.nf.den_mem p hp).2.2.2 (p.to - 1) (by omega) (by omega)
      by_cases hc : p.to ≤ H.length + 1
      · exact hc
      · rw [h.high (by omega)] at h3
        exact absurd h3.symm m4
  have hE : insE P a m = 0 := by
    unfold insE
    rw [if_neg (by omega), if_neg (by omega), if_neg (by omega)]
  obtain ⟨g1, g2, g3⟩ := ins_inv a m P h.good.nf
  have hP : insQ P a m = insP a m P := by
    unfold insQ
    rw [if_pos hE, Int.toNat_natCast, Int.toNat_natCast]
  have hlen := h.len
  refine ⟨hE, ⟨h.good.insQ _ _, fun x y hy => ?_, by simp [hlen], fun i => ?_⟩⟩
  · rw [hP, g3] at hy
    split at hy
    · exact h.only x y hy
    · split at hy
      · cases hy
      · exact h.only _ y hy
  · rw [hP, g3]
    unfold lastAt
    have key : ∀ {α : Type} (L : List α) (z : α), L.length = H.length → (L.take (a - 1) ++ List.replicate m z ++ L.drop (a - 1))[i]? = if i + 1 < a then L[i]? else if i + 1 < a + m then some z else L[i - m]? := by
      intro α L z hL
      have e0 : (L.take (a - 1)).length = a - 1 := by rw [List.length_take]; omega
      by_cases c1 : i + 1 < a
      · rw [if_pos c1, List.append_assoc, List.getElem?_append_left (by omega), List.getElem?_take, if_pos (by omega)]
      · rw [if_neg c1]
        by_cases c2 : i + 1 < a + m
        · rw [if_pos c2, List.append_assoc, List.getElem?_append_right (by omega), List.getElem?_append_left (by rw [List.length_replicate]; omega), List.getElem?_replicate, if_pos (by omega)]
        · rw [if_neg c2, List.getElem?_append_right (by rw [List.length_append, List.length_replicate]; omega), List.getElem?_drop, List.length_append, List.length_replicate, e0]
          congr 1
          omega
    rw [key H false rfl, key V (0, 0) hlen]
    by_cases c1 : i + 1 < a
    · rw [if_pos c1, if_pos c1, if_pos c1]
      exact h.val i
    · rw [if_neg c1, if_neg c1, if_neg c1]
      by_cases c2 : i + 1 < a + m
      · rw [if_pos c2, if_pos c2, if_pos c2, if_neg (by simp)]
        rfl
      · rw [if_neg c2, if_neg c2, if_neg c2, show i + 1 - m = (i - m) + 1 by omega]
        exact h.val (i - m)
theorem Lst.del_ (h : Lst P nm H V) (hl : H.length ≤ 1000) {a b : Nat} (h1 : 1 ≤ a) (h2 : a ≤ b) (h3 : b ≤ H.length + 1) :
    delE a b = 0 ∧ Lst (delQ P a b) nm (H.take (a - 1) ++ H.drop (b - 1)) (V.take (a - 1) ++ V.drop (b - 1)) := by
  have hr : 1 ≤ (a : Int) ∧ (a : Int) ≤ (b : Int) ∧ (b : Int) ≤ 65537 := by omega
  obtain ⟨g1, g2, g3⟩ := del_inv a b h2 P h.good.nf
  have hP : delQ P a b = delP a b P := by
    unfold delQ
    rw [if_pos hr, Int.toNat_natCast, Int.toNat_natCast]
  have hlen := h.len
  refine ⟨by unfold delE; rw [if_pos hr], ⟨h.good.delQ _ _, fun x y hy => ?_, by simp [hlen], fun i => ?_⟩⟩
  · rw [hP, g3] at hy
    split at hy
    · exact h.only x y hy
    · exact h.only _ y hy
  · rw [hP, g3]
    unfold lastAt
    have key : ∀ {α : Type} (L : List α), L.length = H.length → (L.take (a - 1) ++ L.drop (b - 1))[i]? = if i + 1 < a then L[i]? else L[i + (b - a)]? := by
      intro α L hL
      have e0 : (L.take (a - 1)).length = a - 1 := by rw [List.length_take]; omega
      by_cases c1 : i + 1 < a
      · rw [if_pos c1, List.getElem?_append_left (by omega), List.getElem?_take, if_pos (by omega)]
      · rw [if_neg c1, List.getElem?_append_right (by omega), List.getElem?_drop, e0]
        congr 1
        omega
    rw [key H rfl, key V hlen]
    by_cases c1 : i + 1 < a
    · rw [if_pos c1, if_pos c1, if_pos c1]
      exact h.val i
    · rw [if_neg c1, if_neg c1, if_neg c1, show i + 1 + (b - a) = (i + (b - a)) + 1 by omega]
      exact h.val _
theorem Lst.zero (nm : Int) (s : Nat) : Lst [] nm (List.replicate s false) (List.replicate s (0, 0)) := by
  refine ⟨Good.nil 64, fun _ _ h => (by cases h), by simp, fun i => ?_⟩
  unfold lastAt
  rw [if_neg (by simp [List.getElem?_replicate])]
  rfl
end
end Go.Proofs.Ytgiogmbopiblmaa
