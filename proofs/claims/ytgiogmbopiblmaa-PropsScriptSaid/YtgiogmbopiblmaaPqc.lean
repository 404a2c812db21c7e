/- Pasted spans: plain laws. No condition but those written. -/
import Derived.Test.YtgiogmbopiblmaaPqb
namespace Go.Proofs.Ytgiogmbopiblmaa
open Go.RowKit

/-- Pieces as Good has them, the length of a list bounded place by place. -/
structure GoodF (P : List Pc) (B : Nat → Nat) : Prop where
  nf : Nf 0 [] P
  ran : ∀ x, x < 1 ∨ 65537 ≤ x → den P x = []
  asc : ∀ x, Asc17 (den P x)
  nam : ∀ x, ∀ y ∈ den P x, (0 : Int) ≤ y.1
  len : ∀ x, (den P x).length ≤ B x
theorem GoodF.good {P : List Pc} {B : Nat → Nat} {K : Nat} (h : GoodF P B) (hb : ∀ x, B x ≤ K) : Good P K := ⟨h.nf, h.ran, h.asc, h.nam, fun x => Nat.le_trans (h.len x) (hb x)⟩
theorem Good.goodF {P : List Pc} {K : Nat} (h : Good P K) : GoodF P (fun _ => K) := ⟨h.nf, h.ran, h.asc, h.nam, h.len⟩
theorem GoodF.mono {P : List Pc} {B B' : Nat → Nat} (h : GoodF P B) (hb : ∀ x, B x ≤ B' x) : GoodF P B' := ⟨h.nf, h.ran, h.asc, h.nam, fun x => Nat.le_trans (h.len x) (hb x)⟩
theorem GoodF.put {P : List Pc} {B : Nat → Nat} {a d : Nat} {y : Pr} (h : GoodF P B) (h1 : 1 ≤ a) (h2 : a ≤ d) (h3 : d ≤ 65537) (hy : 0 ≤ y.1) : GoodF (changeP a d (fun q => withP q y) P) (fun x => B x + if a ≤ x ∧ x < d then 1 else 0) := by
  obtain ⟨g1, g2⟩ := change_law (fun q => withP q y) h.nf h2
  refine ⟨g1, fun x hx => ?_, fun x => ?_, fun x => ?_, fun x => ?_⟩
  · rw [g2]
    unfold tgt
    rw [if_neg (by omega)]
    exact h.ran x hx
  · rw [g2]
    unfold tgt
    split
    · exact withP_asc (h.asc x)
    · exact h.asc x
  · rw [g2]
    unfold tgt
    split
    · intro z hz
      rcases withP_mem hz with rfl | hz
      · exact hy
      · exact h.nam x z hz
    · exact h.nam x
  · rw [g2]
    unfold tgt
    have h5 := h.len x
    have h6 := (withP_len y (den P x)).2
    show _ ≤ B x + if a ≤ x ∧ x < d then 1 else 0
    by_cases hx : a ≤ x ∧ x < d
    · rw [if_pos hx, if_pos hx]
      exact Nat.le_trans h6 (by omega)
    · rw [if_neg hx, if_neg hx]
      omega
/-- A span's properties put on a range. -/
def pasteX (a d : Nat) : List Pr → List Pc → Int ⊕ List Pc
  | [], P => .inr P
  | x :: l, P => if x.1 < 0 then .inl 17 else pasteX a d l (changeP a d (fun q => withP q x) P)
def mayP (a b : Int) : Prop := 1 ≤ a ∧ a ≤ b ∧ b ≤ 65537
instance (a b : Int) : Decidable (mayP a b) := inferInstanceAs (Decidable (1 ≤ a ∧ a ≤ b ∧ b ≤ 65537))
/-- Spans put at a place. -/
def pasteS (at_ : Int) : List Sn → List Pc → Int ⊕ List Pc
  | [], P => .inr P
  | s :: S, P => if mayP s.lo s.hi ∧ mayP (at_ + s.lo - 1) (at_ + s.hi - 1) then (pasteX (at_ + s.lo - 1).toNat (at_ + s.hi - 1).toNat s.pr P).elim .inl (pasteS at_ S) else .inl 3
def pasteR (P : List Pc) (at_ : Int) (S : List Sn) : Int ⊕ List Pc := if at_ < 1 ∨ 65537 < at_ then .inl 3 else (pasteS at_ S P).elim .inl fun P' => if fullP P' then .inl 7 else .inr P'
def pasteE (P : List Pc) (at_ : Int) (S : List Sn) : Int := (pasteR P at_ S).elim id fun _ => 0
def pasteQ (P : List Pc) (at_ : Int) (S : List Sn) : List Pc := (pasteR P at_ S).elim (fun _ => P) id
/-- How many properties fall on a place. -/
def cov (at_ : Int) : List Sn → Nat → Nat
  | [], _ => 0
  | s :: S, x => (if at_ + s.lo - 1 ≤ (x : Int) ∧ (x : Int) < at_ + s.hi - 1 then s.pr.length else 0) + cov at_ S x
theorem cov_take (at_ : Int) : ∀ (S : List Sn) (k x : Nat), cov at_ (S.take k) x ≤ cov at_ S x
  | [], k, x => by simp
  | s :: S, 0, x => by simp [cov]
  | s :: S, k + 1, x => by
      have := cov_take at_ S k x
      simp only [List.take_succ_cons, cov]
      omega
theorem cov_app (at_ : Int) : ∀ (S T : List Sn) (x : Nat), cov at_ (S ++ T) x = cov at_ S x + cov at_ T x
  | [], T, x => by simp [cov]
  | s :: S, T, x => by
      have := cov_app at_ S T x
      simp only [List.cons_append, cov]
      omega
theorem cov_step {at_ : Int} {S : List Sn} {k : Nat} {s : Sn} (h : S[k]? = some s) (x : Nat) : cov at_ (S.take (k + 1)) x = cov at_ (S.take k) x + (if at_ + s.lo - 1 ≤ (x : Int) ∧ (x : Int) < at_ + s.hi - 1 then s.pr.length else 0) := by
  rw [List.take_add_one, h, cov_app]
  simp [cov]
theorem drop_at {α : Type} {l : List α} {k : Nat} {x : α} (h : l[k]? = some x) : l.drop k = x :: l.drop (k + 1) := by
  have hk := (List.getElem?_eq_some_iff.1 h).1
  rw [List.drop_eq_getElem_cons hk]
  rw [List.getElem?_eq_getElem hk] at h
  injection h with h
  rw [h]
/-- What is left to do. -/
def Left1 (a d : Nat) (l : List Pr) (P : List Pc) (j : Nat) (Q : List Pc) : Prop := pasteX a d l P = pasteX a d (l.drop j) Q
def Left2 (at_ : Int) (S : List Sn) (P : List Pc) (k : Nat) (Q : List Pc) : Prop := pasteS at_ S P = pasteS at_ (S.drop k) Q
section
variable {a d j k : Nat} {l : List Pr} {P Q : List Pc} {at_ : Int} {S : List Sn} {x : Pr} {s : Sn}
theorem Left1.bad (h : Left1 a d l P j Q) (hx : l[j]? = some x) (hn : x.1 < 0) : pasteX a d l P = .inl 17 := by
  unfold Left1 at h
  rw [h, drop_at hx]
  exact if_pos hn
theorem Left1.step (h : Left1 a d l P j Q) (hx : l[j]? = some x) (hn : ¬ x.1 < 0) : Left1 a d l P (j + 1) (changeP a d (fun q => withP q x) Q) := by
  unfold Left1 at h ⊢
  rw [h, drop_at hx]
  exact if_neg hn
theorem Left1.done (h : Left1 a d l P l.length Q) : pasteX a d l P = .inr Q := by
  unfold Left1 at h
  rw [h, List.drop_eq_nil_of_le (Nat.le_refl _)]
  rfl
theorem Left2.bad (h : Left2 at_ S P k Q) (hs : S[k]? = some s) (hm : ¬ (mayP s.lo s.hi ∧ mayP (at_ + s.lo - 1) (at_ + s.hi - 1))) : pasteS at_ S P = .inl 3 := by
  unfold Left2 at h
  rw [h, drop_at hs]
  exact if_neg hm
theorem Left2.bad1 (h : Left2 at_ S P k Q) (hs : S[k]? = some s) (hm : mayP s.lo s.hi ∧ mayP (at_ + s.lo - 1) (at_ + s.hi - 1)) {e : Int} (hx : pasteX (at_ + s.lo - 1).toNat (at_ + s.hi - 1).toNat s.pr Q = .inl e) : pasteS at_ S P = .inl e := by
  unfold Left2 at h
  rw [h, drop_at hs]
  unfold pasteS
  rw [if_pos hm, hx]
  rfl
theorem Left2.step (h : Left2 at_ S P k Q) (hs : S[k]? = some s) (hm : mayP s.lo s.hi ∧ mayP (at_ + s.lo - 1) (at_ + s.hi - 1)) {Q' : List Pc} (hx : pasteX (at_ + s.lo - 1).toNat (at_ + s.hi - 1).toNat s.pr Q = .inr Q') : Left2 at_ S P (k + 1) Q' := by
  unfold Left2 at h ⊢
  rw [h, drop_at hs]
  conv => lhs; unfold pasteS
  rw [if_pos hm, hx]
  rfl
theorem Left2.done (h : Left2 at_ S P S.length Q) : pasteS at_ S P = .inr Q := by
  unfold Left2 at h
  rw [h, List.drop_eq_nil_of_le (Nat.le_refl _)]
  rfl
theorem pasteR_far (h : at_ < 1 ∨ 65537 < at_) : pasteE P at_ S = 3 ∧ pasteQ P at_ S = P := by
  have e : pasteR P at_ S = .inl 3 := if_pos h
  unfold pasteE pasteQ
  rw [e]
  exact ⟨rfl, rfl⟩
theorem pasteR_bad (h : ¬ (at_ < 1 ∨ 65537 < at_)) {e : Int} (hp : pasteS at_ S P = .inl e) : pasteE P at_ S = e ∧ pasteQ P at_ S = P := by
  have e1 : pasteR P at_ S = .inl e := by unfold pasteR; rw [if_neg h, hp]; rfl
  unfold pasteE pasteQ
  rw [e1]
  exact ⟨rfl, rfl⟩
theorem pasteR_full (h : ¬ (at_ < 1 ∨ 65537 < at_)) (hp : pasteS at_ S P = .inr Q) (hf : fullP Q = true) : pasteE P at_ S = 7 ∧ pasteQ P at_ S = P := by
  have e1 : pasteR P at_ S = .inl 7 := by unfold pasteR; rw [if_neg h, hp]; exact if_pos hf
  unfold pasteE pasteQ
  rw [e1]
  exact ⟨rfl, rfl⟩
theorem pasteR_ok (h : ¬ (at_ < 1 ∨ 65537 < at_)) (hp : pasteS at_ S P = .inr Q) (hf : fullP Q = false) : pasteE P at_ S = 0 ∧ pasteQ P at_ S = Q := by
  have e1 : pasteR P at_ S = .inr Q := by unfold pasteR; rw [if_neg h, hp]; exact if_neg (by rw [hf]; simp)
  unfold pasteE pasteQ
  rw [e1]
  exact ⟨rfl, rfl⟩
end
end Go.Proofs.Ytgiogmbopiblmaa
