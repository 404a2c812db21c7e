/- Pieces within the bounds of a text: plain laws. No condition but those written. -/
import Derived.Test.YtgiogmbopiblmaaPrd
namespace Go.Proofs.Ytgiogmbopiblmaa

/-- Pieces in form, in range, each list in order, with names that may be, of at most N. -/
structure Good (P : List Pc) (N : Nat) : Prop where
  nf : Nf 0 [] P
  ran : ∀ x, x < 1 ∨ 65537 ≤ x → den P x = []
  asc : ∀ x, Asc17 (den P x)
  nam : ∀ x, ∀ y ∈ den P x, (0 : Int) ≤ y.1
  len : ∀ x, (den P x).length ≤ N
theorem Nf.den_mem : ∀ {P : List Pc} {b : Nat} {q : List Pr}, Nf b q P → ∀ p ∈ P, b ≤ p.fr ∧ p.fr < p.to ∧ p.pr ≠ [] ∧ ∀ x, p.fr ≤ x → x < p.to → den P x = p.pr
  | [], _, _, _, p, h => by cases h
  | z :: P, b, q, hn, p, h => by
      obtain ⟨h1, h2, h3, h4, h5⟩ := hn
      rcases List.mem_cons.1 h with rfl | h
      · refine ⟨h1, h2, h3, fun x g1 g2 => ?_⟩
        unfold den
        rw [if_pos ⟨g1, g2⟩]
      · obtain ⟨g1, g2, g3, g4⟩ := Nf.den_mem h5 p h
        refine ⟨by omega, g2, g3, fun x e1 e2 => ?_⟩
        unfold den
        rw [if_neg (by omega)]
        exact g4 x e1 e2
theorem den_from : ∀ {P : List Pc} {x : Nat}, den P x ≠ [] → ∃ p ∈ P, p.fr ≤ x ∧ x < p.to ∧ den P x = p.pr
  | [], _, h => absurd rfl h
  | z :: P, x, h => by
      unfold den at h ⊢
      by_cases hz : z.fr ≤ x ∧ x < z.to
      · rw [if_pos hz]
        exact ⟨z, List.mem_cons_self .., hz.1, hz.2, rfl⟩
      · rw [if_neg hz] at h ⊢
        obtain ⟨p, hp, h1⟩ := den_from h
        exact ⟨p, List.mem_cons_of_mem _ hp, h1⟩
theorem Nf.count : ∀ {P : List Pc} {b : Nat} {q : List Pr}, Nf b q P → b + P.length ≤ (lastE b q P).1
  | [], _, _, _ => Nat.le_refl _
  | z :: P, b, q, hn => by
      obtain ⟨h1, h2, h3, h4, h5⟩ := hn
      have := Nf.count h5
      simp only [lastE, List.length_cons]
      omega
section
variable {P : List Pc} {N : Nat}
theorem Good.mem (h : Good P N) {p : Pc} (hp : p ∈ P) : 1 ≤ p.fr ∧ p.fr < p.to ∧ p.to ≤ 65537 ∧ p.pr ≠ [] ∧ Asc17 p.pr ∧ (∀ y ∈ p.pr, (0 : Int) ≤ y.1) ∧ p.pr.length ≤ N := by
  obtain ⟨_, h1, h2, h3⟩ := h.nf.den_mem p hp
  have e := h3 p.fr (Nat.le_refl _) h1
  refine ⟨?_, h1, ?_, h2, e ▸ h.asc p.fr, e ▸ h.nam p.fr, e ▸ h.len p.fr⟩
  · rcases Nat.lt_or_ge p.fr 1 with g | g
    · rw [h.ran _ (.inl g)] at e
      exact absurd e.symm h2
    · exact g
  · rcases Nat.lt_or_ge 65537 p.to with g | g
    · have e2 := h3 (p.to - 1) (by omega) (by omega)
      rw [h.ran _ (.inr (by omega))] at e2
      exact absurd e2.symm h2
    · exact g
theorem Good.ends (h : Good P N) : endP P ≤ 65537 := by
  rcases snoc_cases P with rfl | ⟨k, p, rfl⟩
  · exact Nat.zero_le _
  · rw [endP_snoc]
    exact (h.mem (p := p) (by simp)).2.2.1
theorem Good.size (h : Good P N) : P.length ≤ 65537 := by
  have h1 := h.nf.count
  have h2 := h.ends
  unfold endP at h2
  omega
theorem Good.mono (h : Good P N) {M : Nat} (hm : N ≤ M) : Good P M := ⟨h.nf, h.ran, h.asc, h.nam, fun x => Nat.le_trans (h.len x) hm⟩
theorem Good.nil (N : Nat) : Good [] N := ⟨trivial, fun _ _ => rfl, fun _ => List.Pairwise.nil, fun _ _ h => (by cases h), fun _ => Nat.zero_le _⟩
/-- A list that may be one of a character. -/
structure OkL (q : List Pr) (N : Nat) : Prop where
  asc : Asc17 q
  nam : ∀ y ∈ q, (0 : Int) ≤ y.1
  len : q.length ≤ N
theorem Good.at_ (h : Good P N) (x : Nat) : OkL (den P x) N := ⟨h.asc x, h.nam x, h.len x⟩
theorem OkL.nil (N : Nat) : OkL [] N := ⟨List.Pairwise.nil, fun _ h => (by cases h), Nat.zero_le _⟩
theorem Good.of (hn : Nf 0 [] P) (hr : ∀ x, x < 1 ∨ 65537 ≤ x → den P x = []) (ho : ∀ x, OkL (den P x) N) : Good P N := ⟨hn, hr, fun x => (ho x).asc, fun x => (ho x).nam, fun x => (ho x).len⟩
theorem OkL.with_ {q : List Pr} (h : OkL q N) {x : Pr} (hx : 0 ≤ x.1) : OkL (withP q x) (N + 1) := by
  refine ⟨withP_asc h.asc, fun y hy => ?_, Nat.le_trans (withP_len x q).2 (Nat.succ_le_succ h.len)⟩
  rcases withP_mem hy with rfl | hy
  · exact hx
  · exact h.nam y hy
theorem OkL.without {q : List Pr} (h : OkL q N) (n : Int) : OkL (withoutP q n) N := by
  refine ⟨withoutP_asc n h.asc, fun y hy => h.nam y (List.mem_filter.1 hy).1, Nat.le_trans (List.length_filter_le _ _) h.len⟩
theorem Good.change (h : Good P N) {fr en M : Nat} (h1 : 1 ≤ fr) (h2 : fr ≤ en) (h3 : en ≤ 65537) {f : List Pr → List Pr} (hf : ∀ q, OkL q N → OkL (f q) M) (hNM : N ≤ M) : Good (changeP fr en f P) M := by
  obtain ⟨g1, g2⟩ := change_law f h.nf h2
  refine Good.of g1 (fun x hx => ?_) fun x => ?_
  · rw [g2]
    unfold tgt
    rw [if_neg (by omega)]
    exact h.ran x hx
  · rw [g2]
    unfold tgt
    split
    · exact hf _ (h.at_ x)
    · exact ⟨h.asc x, h.nam x, Nat.le_trans (h.len x) hNM⟩
theorem Good.ins (h : Good P N) {a n : Nat} (h1 : 1 ≤ a) (h2 : endP P ≤ a ∨ endP P + n ≤ 65537) : Good (insP a n P) N := by
  obtain ⟨g1, g2, g3⟩ := ins_inv a n P h.nf
  have hz : ∀ x, endP P ≤ x → den P x = [] := fun x hx => den_high h.nf hx
  have he := h.ends
  refine Good.of g1 (fun x hx => ?_) fun x => ?_
  · rw [g3]
    rcases hx with hx | hx
    · rw [if_pos (by omega)]
      exact h.ran x (.inl hx)
    · split
      · exact h.ran x (.inr hx)
      · split
        · rfl
        · rcases h2 with h2 | h2
          · exact hz _ (by omega)
          · exact hz _ (by omega)
  · rw [g3]
    split
    · exact h.at_ x
    · split
      · exact OkL.nil N
      · exact h.at_ _
theorem Good.del (h : Good P N) {fr en : Nat} (h1 : 1 ≤ fr) (h2 : fr ≤ en) : Good (delP fr en P) N := by
  obtain ⟨g1, g2, g3⟩ := del_inv fr en h2 P h.nf
  refine Good.of g1 (fun x hx => ?_) fun x => ?_
  · rw [g3]
    split
    · exact h.ran x hx
    · exact h.ran _ (by omega)
  · rw [g3]
    split
    · exact h.at_ x
    · exact h.at_ _
end
end Go.Proofs.Ytgiogmbopiblmaa
