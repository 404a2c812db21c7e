/- do at an object; many acts; plain laws of spans in order. No condition but those written. -/
import Derived.Test.YtgiogmbopiblmaaPqm
namespace Go.Proofs.Ytgiogmbopiblmaa
open Go.RowKit

/-- Behind acts. -/
def doAll (l : List Ac) : List Pc := l.foldl doQ []
theorem doAll_good (l : List Ac) : Good (doAll l) 64 := by
  unfold doAll
  have key : ∀ (l : List Ac) (P : List Pc), Good P 64 → Good (l.foldl doQ P) 64 := by
    intro l
    induction l with
    | nil => exact fun P h => h
    | cons a l ih => exact fun P h => ih _ (h.doQ (by omega) a)
  exact key l [] (Good.nil 64)
theorem doAll_step {l : List Ac} {k : Nat} {a : Ac} (h : l[k]? = some a) : doQ (doAll (l.take k)) a = doAll (l.take (k + 1)) := by
  unfold doAll
  rw [List.take_add_one, h, List.foldl_append]
  rfl
theorem ActsRd.sub {w w' : World} {v : Value} {l : List Ac} (h : ActsRd w v l) (hb : Below w.heap.size w w') : ActsRd w' v l := h.below hb (rfl : (0 : Nat) = 0)
theorem acts_ok {W : World} {v : Value} {l : List Ac} (h : ActsRd W v l) (hl : lightL l = true) : ∀ a ∈ l, ActOk W a := by
  intro a ha
  unfold lightL at hl
  rw [Bool.and_eq_true, List.all_eq_true] at hl
  have h1 := hl.1 a ha
  unfold lightA lightH at h1
  simp only [Bool.and_eq_true, List.all_eq_true, decide_eq_true_eq] at h1
  refine ⟨h.inn a ha, h1.1.2, fun s hs => ?_⟩
  have h2 := h1.2 s hs
  unfold lightS at h2
  simp only [Bool.and_eq_true, decide_eq_true_eq] at h2
  exact h2.2
theorem obj_do {W w : World} {b : Nat} {P : List Pc} (h : Obj W w b P) (hg : Good P 64) (a : Ac) (ha : ActOk w a) :
    Calls Try.prog 28 #[.pointer (some ⟨b, 0, none⟩), .agg #[.int .i64 a.kd, .int .i64 a.fr, .int .i64 a.en, .int .i64 a.nm, .int .i64 a.n, .int .i64 a.k, .int .i64 a.v, a.sv]] w (ORes W w b (doQ P a) (.int .i64 (doE P a))) := by
  obtain ⟨⟨sv, L, h1, h2, h3⟩, h4⟩ := h
  refine (do_any h1 h2 hg a ha).mono ?_
  rintro e w' ⟨rfl, hm⟩
  exact ⟨rfl, Obj.of_mres h1 h3 h4 hm⟩
theorem cell_keep {w w' : World} {p : Addr} {u : Value} (h : w.cell? p = some u) (hb : Below w.heap.size w w') : w'.cell? p = some u := (hb.cell (World.block_lt_of_cell? _ _ h)).trans h
/-! ### Spans in order -/
theorem Nf.sep : ∀ {l : List Pc} {b : Nat} {q : List Pr}, Nf b q l → l.Pairwise fun p r => p.to ≤ r.fr
  | [], _, _, _ => List.Pairwise.nil
  | _ :: _, _, _, h => List.Pairwise.cons (fun r hr => (h.2.2.2.2.den_mem r hr).1) h.2.2.2.2.sep
theorem Nf.adj : ∀ {l : List Pc} {b : Nat} {q : List Pr}, Nf b q l → ∀ {i : Nat} {p r : Pc}, l[i]? = some p → l[i + 1]? = some r → p.to ≤ r.fr ∧ (p.to = r.fr → p.pr ≠ r.pr)
  | [], _, _, _, i, p, r, h1, _ => by simp at h1
  | x :: l, b, q, h, 0, p, r, h1, h2 => by
      simp only [List.getElem?_cons_zero, Option.some.injEq] at h1
      subst h1
      cases l with
      | nil => simp at h2
      | cons y l =>
        simp at h2
        subst h2
        obtain ⟨g1, g2, g3, g4, g5⟩ := h.2.2.2.2
        exact ⟨g1, fun e k => g4 e.symm k.symm⟩
  | x :: l, b, q, h, i + 1, p, r, h1, h2 => by
      simp only [List.getElem?_cons_succ] at h1 h2
      exact h.2.2.2.2.adj h1 h2
/-- All of the first k pieces end ahead of or at x. -/
def Past (C : List Pc) (k : Nat) (x : Nat) : Prop := ∀ p ∈ C.take k, p.to ≤ x
theorem Past.zero (C : List Pc) (x : Nat) : Past C 0 x := fun p hp => by simp at hp
theorem Past.step {C : List Pc} {k x : Nat} {p : Pc} (h : Past C k x) (hp : C[k]? = some p) (hx : p.to ≤ x) : Past C (k + 1) x := by
  intro r hr
  rw [List.take_add_one, hp] at hr
  rcases List.mem_append.1 hr with hr | hr
  · exact h r hr
  · simp at hr
    rw [hr]
    exact hx
theorem Past.next {C : List Pc} {k x : Nat} (h : Past C k x) : Past C k (x + 1) := fun p hp => Nat.le_succ_of_le (h p hp)
section
variable {C : List Pc} {k x : Nat} {p : Pc}
theorem past_in (hn : Nf 0 [] C) (hp : C[k]? = some p) (h1 : p.fr ≤ x) (h2 : x < p.to) : den C x = p.pr := (hn.den_mem p (List.mem_of_getElem? hp)).2.2.2 x h1 h2
theorem past_end (h : Past C C.length x) : den C x = [] := by
  by_cases hx : den C x = []
  · exact hx
  · exfalso
    obtain ⟨r, hr, h1, h2, _⟩ := den_from hx
    have := h r (by rw [List.take_length]; exact hr)
    omega
theorem past_out (hn : Nf 0 [] C) (h : Past C k x) (hp : C[k]? = some p) (h1 : x < p.fr) : den C x = [] := by
  by_cases hx : den C x = []
  · exact hx
  · exfalso
    obtain ⟨r, hr, g1, g2, _⟩ := den_from hx
    obtain ⟨j, hj, e⟩ := List.mem_iff_getElem.1 hr
    have hk := (List.getElem?_eq_some_iff.1 hp).1
    have he := (List.getElem?_eq_some_iff.1 hp).2
    rcases Nat.lt_trichotomy j k with c | c | c
    · have := h r (List.mem_iff_getElem.2 ⟨j, by simp; omega, by simp [e]⟩)
      omega
    · subst c
      rw [e] at he
      subst he
      omega
    · have h3 := List.pairwise_iff_getElem.1 hn.sep k j hk hj c
      have h4 := (hn.den_mem p (List.mem_of_getElem? hp)).2.1
      rw [he, e] at h3
      omega
end
/-- A piece as a span. -/
def spanOf (p : Pc) : Sn := ⟨(p.fr : Int) + 0, (p.to : Int) + 0, p.pr⟩
theorem spP_eq (P : List Pc) {f t : Nat} (h1 : 1 ≤ f) (h2 : f ≤ t) (h3 : t ≤ 65537) : spP P (f : Int) (t : Int) 0 = (cutP f t P).map spanOf := by
  unfold spP
  rw [if_pos (by omega), Int.toNat_natCast, Int.toNat_natCast]
  rfl
/-- The spans that lie in memory are those pieces. -/
theorem sns_at {S : List (Sn × Value)} {C : List Pc} (h : sns S = C.map spanOf) {k : Nat} {p : Pc} (hp : C[k]? = some p) : ∃ pv, S[k]? = some (spanOf p, pv) := by
  have h1 : (sns S)[k]? = some (spanOf p) := by rw [h, List.getElem?_map, hp]; rfl
  unfold sns at h1
  rw [List.getElem?_map] at h1
  cases e : S[k]? with
  | none => rw [e] at h1; cases h1
  | some s =>
    rw [e] at h1
    obtain ⟨s1, s2⟩ := s
    simp at h1
    exact ⟨s2, by rw [h1]⟩
theorem sns_count {S : List (Sn × Value)} {C : List Pc} (h : sns S = C.map spanOf) : S.length = C.length := by
  have := congrArg List.length h
  simpa [sns] using this
section
variable {P : List Pc} {f t : Nat}
theorem cut_nf (hn : Nf 0 [] P) : Nf 0 [] (cutP f t P) := (cut_inv f t P hn).1
theorem cut_den (hn : Nf 0 [] P) (x : Nat) : den (cutP f t P) x = if f ≤ x ∧ x < t then den P x else [] := (cut_inv f t P hn).2.2.2.2 x
theorem cut_in (hn : Nf 0 [] P) {p : Pc} (hp : p ∈ cutP f t P) : f ≤ p.fr ∧ p.fr < p.to ∧ p.to ≤ t := by
  obtain ⟨_, h2, h3, h4⟩ := (cut_nf hn).den_mem p hp
  have h5 := h4 p.fr (Nat.le_refl _) h2
  have h6 := h4 (p.to - 1) (by omega) (by omega)
  rw [cut_den hn] at h5 h6
  refine ⟨?_, h2, ?_⟩
  · by_cases c : f ≤ p.fr ∧ p.fr < t
    · exact c.1
    · rw [if_neg c] at h5
      exact absurd h5.symm h3
  · by_cases c : f ≤ p.to - 1 ∧ p.to - 1 < t
    · omega
    · rw [if_neg c] at h6
      exact absurd h6.symm h3
end
end Go.Proofs.Ytgiogmbopiblmaa
