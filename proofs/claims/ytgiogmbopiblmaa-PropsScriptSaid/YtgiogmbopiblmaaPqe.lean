/- One object of the law's own; what its methods leave besides. No condition but those written. -/
import Derived.Test.YtgiogmbopiblmaaPqd
namespace Go.Proofs.Ytgiogmbopiblmaa
open Go.RowKit

/-- Beside blocks of these types, what was there is there. -/
structure KeepT (ts : TypeId → Prop) (w w' : World) : Prop where
  os : w'.os = w.os
  tape : w'.tape = w.tape
  output : w'.output = w.output
  size : w.heap.size ≤ w'.heap.size
  blk : ∀ (g : Nat) (cs : Array Value) (T : TypeId) (fr : Nat × Nat), w.heap[g]? = some (.cells cs T fr) → ¬ ts T → w'.heap[g]? = w.heap[g]?
theorem KeepT.refl (ts : TypeId → Prop) (w : World) : KeepT ts w w := ⟨rfl, rfl, rfl, Nat.le_refl _, fun _ _ _ _ _ _ => rfl⟩
theorem KeepT.of_below {ts : TypeId → Prop} {w w' : World} (h : Below w.heap.size w w') : KeepT ts w w' := ⟨h.os, h.tape, h.output, h.size, fun g _ _ _ e _ => h.block g (lt_of_heap e)⟩
theorem KeepT.trans {ts : TypeId → Prop} {a b c : World} (h : KeepT ts a b) (k : KeepT ts b c) : KeepT ts a c :=
  ⟨k.os.trans h.os, k.tape.trans h.tape, k.output.trans h.output, Nat.le_trans h.size k.size, fun g cs T fr e n => (k.blk g cs T fr ((h.blk g cs T fr e n).trans e) n).trans (h.blk g cs T fr e n)⟩
theorem KeepT.toBlk {ts : TypeId → Prop} {w w' : World} (h : KeepT ts w w') {g : Nat} {T : TypeId} {cs : Array Value} (hb : Blk w g T cs) (hT : ¬ ts T) : Blk w' g T cs := (h.blk g cs T (0, 0) hb hT).trans hb
theorem KeepT.toSl {ts : TypeId → Prop} {w w' : World} (h : KeepT ts w w') {T : TypeId} {k n : Nat} {v : Value} {xs : List Value} (hs : Sl w T k v n xs) (hT : ¬ ts T) : Sl w' T k v n xs := by
  refine ⟨hs.1, ?_⟩
  rcases hs.2 with e | ⟨g, off, c, cs, e, hg, h1, h2, h3, h4⟩
  · exact .inl e
  · exact .inr ⟨g, off, c, cs, e, (h.blk g cs T (0, 0) hg hT).trans hg, h1, h2, h3, h4⟩
/-- The types of the code's own blocks. -/
def isCode (T : TypeId) : Prop := T = 69 ∨ T = 73
theorem only_keep {w w' : World} {b : Nat} {sv : Value} {L : List (Pc × Value)} (h : PropsAt w b sv L) (ho : Only (foot b sv) w w') : KeepT isCode w w' := by
  refine ⟨ho.os, ho.tape, ho.output, ho.size, fun g cs T fr e hT => ho.block g (lt_of_heap e) ?_⟩
  rintro (rfl | hg)
  · have := h.box
    unfold Blk at this
    rw [this] at e
    cases e
    exact hT (.inl rfl)
  · rcases h.inn.row.2 with ⟨e1, _⟩ | ⟨g1, o1, c1, cs1, e1, hh, _⟩
    · rw [e1] at hg
      cases hg
    · rw [e1] at hg
      cases hg
      rw [hh] at e
      cases e
      exact hT (.inr rfl)
/-- An object of the law's own. -/
structure Obj (W w : World) (b : Nat) (P : List Pc) : Prop where
  ex : ∃ sv L, PropsAt w b sv L ∧ pcs L = P ∧ ∀ g, foot b sv g → W.heap.size ≤ g
  bel : Below W.heap.size W w
theorem Obj.below {W w w' : World} {b : Nat} {P : List Pc} (h : Obj W w b P) (hb : Below w.heap.size w w') : Obj W w' b P := by
  obtain ⟨⟨sv, L, h1, h2, h3⟩, h4⟩ := h
  exact ⟨⟨sv, L, h1.below hb, h2, h3⟩, h4.trans (hb.mono h4.size)⟩
theorem Obj.of_mres {W w w' : World} {b : Nat} {sv : Value} {L : List (Pc × Value)} {P' : List Pc} (h1 : PropsAt w b sv L) (h3 : ∀ g, foot b sv g → W.heap.size ≤ g) (h4 : Below W.heap.size W w) (hm : MRes w b sv P' w') : Obj W w' b P' ∧ KeepT isCode w w' := by
  obtain ⟨sv', L', g1, g2, g3, g4⟩ := hm
  refine ⟨⟨⟨sv', L', g1, g2, ?_⟩, h4.trans (g3.below h4.size h3)⟩, only_keep h1 g3⟩
  rintro g (rfl | hg)
  · exact h3 g (.inl rfl)
  · rcases g4 g hg with e | e
    · exact h3 g (.inr e)
    · exact Nat.le_trans h4.size e
/-- What a method leaves. -/
def ORes (W w : World) (b : Nat) (P' : List Pc) (r : Value) (e : Ending) (w' : World) : Prop := e = .returned r ∧ Obj W w' b P' ∧ KeepT isCode w w'
section
variable {W w : World} {b N D : Nat} {P : List Pc}
theorem obj_put (h : Obj W w b P) (hg : Good P N) (hN : N ≤ 1000) (fr en n k v : Int) : Calls Try.prog 13 #[.pointer (some ⟨b, 0, none⟩), .int .i64 fr, .int .i64 en, .int .i64 n, .agg #[.int .i64 k, .int .i64 v]] w (ORes W w b (putP P fr en (n, k, v)) (.int .i64 (putE P fr en (n, k, v)))) := by
  obtain ⟨⟨sv, L, h1, rfl, h3⟩, h4⟩ := h
  refine (put_any h1 hg hN fr en n k v).mono ?_
  rintro e w' ⟨rfl, hm⟩
  exact ⟨rfl, Obj.of_mres h1 h3 h4 hm⟩
theorem obj_take (h : Obj W w b P) (hg : Good P N) (hN : N ≤ 1000) (fr en n : Int) : Calls Try.prog 23 #[.pointer (some ⟨b, 0, none⟩), .int .i64 fr, .int .i64 en, .int .i64 n] w (ORes W w b (takeP P fr en n) (.int .i64 (chkE fr en n))) := by
  obtain ⟨⟨sv, L, h1, rfl, h3⟩, h4⟩ := h
  refine (take_any h1 hg hN fr en n).mono ?_
  rintro e w' ⟨rfl, hm⟩
  exact ⟨rfl, Obj.of_mres h1 h3 h4 hm⟩
theorem obj_ins (h : Obj W w b P) (hg : Good P N) (hN : N ≤ 1000) (a n : Int) : Calls Try.prog 19 #[.pointer (some ⟨b, 0, none⟩), .int .i64 a, .int .i64 n] w (ORes W w b (insQ P a n) (.int .i64 (insE P a n))) := by
  obtain ⟨⟨sv, L, h1, rfl, h3⟩, h4⟩ := h
  refine (inserted_any h1 hg hN a n).mono ?_
  rintro e w' ⟨rfl, hm⟩
  exact ⟨rfl, Obj.of_mres h1 h3 h4 hm⟩
theorem obj_del (h : Obj W w b P) (hg : Good P N) (hN : N ≤ 1000) (a n : Int) : Calls Try.prog 26 #[.pointer (some ⟨b, 0, none⟩), .int .i64 a, .int .i64 n] w (ORes W w b (delQ P a n) (.int .i64 (delE a n))) := by
  obtain ⟨⟨sv, L, h1, rfl, h3⟩, h4⟩ := h
  refine (deleted_any h1 hg hN a n).mono ?_
  rintro e w' ⟨rfl, hm⟩
  exact ⟨rfl, Obj.of_mres h1 h3 h4 hm⟩
theorem obj_paste (h : Obj W w b P) (hg : Good P N) (vS : Value) (S : List (Sn × Value)) (hs : SnRd w vS S) (a0 : Int) (hcov : ∀ x, cov a0 (sns S) x ≤ D) (hND : N + D ≤ 1000) (hSl : S.length ≤ 1000000) (hSp : ∀ s ∈ S, s.1.pr.length ≤ 1000000) : Calls Try.prog 17 #[.pointer (some ⟨b, 0, none⟩), .int .i64 a0, vS] w (ORes W w b (pasteQ P a0 (sns S)) (.int .i64 (pasteE P a0 (sns S)))) := by
  obtain ⟨⟨sv, L, h1, rfl, h3⟩, h4⟩ := h
  refine (paste_any h1 hg vS S hs a0 hcov hND hSl hSp).mono ?_
  rintro e w' ⟨rfl, hm⟩
  exact ⟨rfl, Obj.of_mres h1 h3 h4 hm⟩
theorem obj_get (h : Obj W w b P) (hg : Good P N) (hN : N ≤ 1000) (x n : Int) : Calls Try.prog 21 #[.pointer (some ⟨b, 0, none⟩), .int .i64 x, .int .i64 n] w fun e w' => e = .returned (.tuple #[.agg #[.int .i64 (getV (denI P x) n).1, .int .i64 (getV (denI P x) n).2], .bool (getP (denI P x) n).isSome]) ∧ Below w.heap.size w w' := by
  obtain ⟨⟨sv, L, h1, rfl, h3⟩, h4⟩ := h
  exact Get_any h1 hg hN x n
theorem obj_list (h : Obj W w b P) (hg : Good P N) (hN : N ≤ 1000) (x : Int) : Calls Try.prog 16 #[.pointer (some ⟨b, 0, none⟩), .int .i64 x] w fun e w' => ∃ v, e = .returned v ∧ PrS w' v (denI P x) ∧ (∀ g, v.ownBlock = some g → w.heap.size ≤ g) ∧ Below w.heap.size w w' := by
  obtain ⟨⟨sv, L, h1, rfl, h3⟩, h4⟩ := h
  exact List_any h1 hg hN x
theorem obj_spans (h : Obj W w b P) (hg : Good P N) (hN : N ≤ 1000) (x y : Int) : Calls Try.prog 18 #[.pointer (some ⟨b, 0, none⟩), .int .i64 x, .int .i64 y] w (SpRes w (spP P x y 0)) := by
  obtain ⟨⟨sv, L, h1, rfl, h3⟩, h4⟩ := h
  exact Spans_any h1 hg hN x y
theorem obj_cut (h : Obj W w b P) (hg : Good P N) (hN : N ≤ 1000) (x y : Int) : Calls Try.prog 20 #[.pointer (some ⟨b, 0, none⟩), .int .i64 x, .int .i64 y] w (SpRes w (cutS P x y)) := by
  obtain ⟨⟨sv, L, h1, rfl, h3⟩, h4⟩ := h
  exact Cut_any h1 hg hN x y
theorem obj_next (h : Obj W w b P) (hg : Good P N) (hN : N ≤ 1000) (x y : Int) : Calls Try.prog 22 #[.pointer (some ⟨b, 0, none⟩), .int .i64 x, .int .i64 y] w fun e w' => e = .returned (.int .i64 (nextP sameL P x y)) ∧ Below w.heap.size w w' := by
  obtain ⟨⟨sv, L, h1, rfl, h3⟩, h4⟩ := h
  exact Next_any h1 hg hN x y
theorem obj_nextof (h : Obj W w b P) (hg : Good P N) (hN : N ≤ 1000) (x n y : Int) : Calls Try.prog 30 #[.pointer (some ⟨b, 0, none⟩), .int .i64 x, .int .i64 n, .int .i64 y] w fun e w' => e = .returned (.int .i64 (nextP (sameV n) P x y)) ∧ Below w.heap.size w w' := by
  obtain ⟨⟨sv, L, h1, rfl, h3⟩, h4⟩ := h
  exact NextOf_any h1 hg hN x n y
theorem obj_new (hb : Below W.heap.size W w) : Calls Try.prog 12 #[] w fun e w' => ∃ b, e = .returned (.pointer (some ⟨b, 0, none⟩)) ∧ Obj W w' b [] ∧ Below w.heap.size w w' := by
  refine (new_any w).mono ?_
  rintro e w' ⟨b, rfl, h1, h2, h3⟩
  refine ⟨b, rfl, ⟨⟨_, _, h2, rfl, ?_⟩, hb.trans (h3.mono hb.size)⟩, h3⟩
  rintro g (rfl | hg)
  · exact Nat.le_trans hb.size h1
  · cases hg
/-! ### What the results are -/
theorem Good.cut64 {M : Nat} (h : Good P M) (hf : fullP P = false) (hN : 64 ≤ N) : Good P N := by
  unfold fullP at hf
  simp only [Bool.or_eq_false_iff, List.any_eq_false] at hf
  refine ⟨h.nf, h.ran, h.asc, h.nam, fun x => ?_⟩
  by_cases hx : den P x = []
  · rw [hx]
    simp
  · obtain ⟨p, hp, _, _, e⟩ := den_from hx
    rw [e]
    have := hf.2 p hp
    unfold fatP at this
    simp at this
    omega
theorem Good.putQ (h : Good P N) (hN : 64 ≤ N) (a d : Int) (x : Pr) : Good (putP P a d x) N := by
  unfold putP
  by_cases h1 : chkE a d x.1 ≠ 0
  · rw [if_pos h1]
    exact h
  · rw [if_neg h1]
    obtain ⟨f1, f2, f3, f4⟩ := chkE_ok (by simpa using h1)
    have hc : Good (changeP a.toNat d.toNat (fun q => withP q x) P) (N + 1) := h.change (by omega) (by omega) (by omega) (fun q hq => hq.with_ f4) (by omega)
    cases hf : fullP (changeP a.toNat d.toNat (fun q => withP q x) P) with
    | true => rw [if_pos rfl]; exact h
    | false =>
      rw [if_neg (by simp)]
      exact Good.cut64 hc hf hN
theorem Good.takeQ (h : Good P N) (a d n : Int) : Good (takeP P a d n) N := by
  unfold takeP
  by_cases h1 : chkE a d n ≠ 0
  · rw [if_pos h1]
    exact h
  · rw [if_neg h1]
    obtain ⟨f1, f2, f3, f4⟩ := chkE_ok (by simpa using h1)
    exact h.change (by omega) (by omega) (by omega) (fun q hq => hq.without n) (Nat.le_refl _)
theorem Good.insQ (h : Good P N) (a n : Int) : Good (insQ P a n) N := by
  unfold Go.Proofs.Ytgiogmbopiblmaa.insQ
  by_cases h1 : insE P a n = 0
  · rw [if_pos h1]
    unfold insE at h1
    split at h1
    · cases h1
    · split at h1
      · cases h1
      · split at h1
        · cases h1
        · exact h.ins (by omega) (by omega)
  · rw [if_neg h1]
    exact h
theorem Good.delQ (h : Good P N) (a d : Int) : Good (delQ P a d) N := by
  unfold Go.Proofs.Ytgiogmbopiblmaa.delQ
  split
  · exact h.del (by omega) (by omega)
  · exact h
end
end Go.Proofs.Ytgiogmbopiblmaa
