/- Define and Drop at every argument, one contract each; what holds of the faces at every time is kept. No condition but those written. -/
import Derived.Test.YtmjogpacajbngaaFi
import Derived.Test.YtmjogpacajbngaaFl
import Derived.Test.YtmjogpacajbngaaFq
namespace Go.Proofs.Ytmjogpacajbngaa
open Go.RowKit

theorem bne_ba {x y : ByteArray} (h : x ≠ y) : (x == y) = false := by
  cases hb : x == y with
  | false => rfl
  | true => exact absurd ((MapKept.bytes_beq _ _).1 hb) h
theorem beq_ba (x : ByteArray) : (x == x) = true := (MapKept.bytes_beq _ _).2 rfl
theorem look_cons (x : ByteArray × Att) (D : Fm) (s : ByteArray) : look (x :: D) s = if s = x.1 then some x.2 else look D s := by
  unfold look
  rw [List.find?_cons]
  by_cases h : s = x.1
  · rw [if_pos h, h, beq_ba]
    rfl
  · rw [if_neg h, bne_ba h]
theorem look_put (D : Fm) (n : ByteArray) (a : Att) (s : ByteArray) : look (putF D n a) s = if s = n then some a else look D s := by
  induction D with
  | nil =>
    show look [(n, a)] s = _
    rw [look_cons]
  | cons x D ih =>
    unfold putF
    by_cases hx : n = x.1
    · rw [if_pos ((MapKept.bytes_beq _ _).2 hx), look_cons, look_cons]
      by_cases h : s = n
      · rw [if_pos h, if_pos h]
      · rw [if_neg h, if_neg h, if_neg (by rw [← hx]; exact h)]
    · rw [if_neg (by rw [bne_ba hx]; decide), look_cons, ih, look_cons]
      by_cases h : s = n
      · rw [if_pos h, if_pos h, if_neg (by rw [h]; exact hx)]
      · rw [if_neg h, if_neg h]
theorem look_key (D : Fm) (s : ByteArray) : (look D s).isSome = true ↔ s ∈ D.map (·.1) := by
  induction D with
  | nil => simp [look]
  | cons x D ih =>
    rw [look_cons, List.map_cons, List.mem_cons]
    by_cases h : s = x.1
    · rw [if_pos h]
      simp [h]
    · rw [if_neg h, ih]
      simp [h]
theorem look_in {D : Fm} {s : ByteArray} {a : Att} (h : look D s = some a) : (s, a) ∈ D := by
  induction D with
  | nil => simp [look] at h
  | cons x D ih =>
    rw [look_cons] at h
    by_cases e : s = x.1
    · rw [if_pos e, Option.some.injEq] at h
      rw [e, ← h]
      exact List.mem_cons_self ..
    · rw [if_neg e] at h
      exact List.mem_cons_of_mem _ (ih h)
theorem putF_keys (D : Fm) (n : ByteArray) (a : Att) : (putF D n a).map (·.1) = if (look D n).isSome = true then D.map (·.1) else D.map (·.1) ++ [n] := by
  induction D with
  | nil => rfl
  | cons x D ih =>
    unfold putF
    rw [look_cons]
    by_cases hx : n = x.1
    · rw [if_pos ((MapKept.bytes_beq _ _).2 hx), if_pos hx, if_pos (show (some x.2).isSome = true from rfl), List.map_cons, List.map_cons, hx]
    · rw [if_neg (by rw [bne_ba hx]; decide), if_neg hx, List.map_cons, ih]
      split <;> rfl
theorem mem_put {D : Fm} {n : ByteArray} {a : Att} {x : ByteArray × Att} (h : x ∈ putF D n a) : x = (n, a) ∨ x ∈ D := by
  induction D with
  | nil => exact .inl (by simpa [putF] using h)
  | cons y D ih =>
    unfold putF at h
    split at h
    · rcases List.mem_cons.1 h with h | h
      · exact .inl h
      · exact .inr (List.mem_cons_of_mem _ h)
    · rcases List.mem_cons.1 h with h | h
      · exact .inr (by rw [h]; exact List.mem_cons_self ..)
      · rcases ih h with h | h
        · exact .inl h
        · exact .inr (List.mem_cons_of_mem _ h)
theorem delF_sub (D : Fm) (n : ByteArray) : (delF D n).Sublist D := by
  induction D with
  | nil => exact List.Sublist.refl _
  | cons x D ih =>
    unfold delF
    split
    · exact List.sublist_cons_self _ _
    · exact ih.cons_cons _
theorem look_del {D : Fm} (hnd : (D.map (·.1)).Nodup) (n s : ByteArray) : look (delF D n) s = if s = n then none else look D s := by
  induction D with
  | nil => simp [delF, look]
  | cons x D ih =>
    rw [List.map_cons, List.nodup_cons] at hnd
    unfold delF
    by_cases hx : n = x.1
    · rw [if_pos ((MapKept.bytes_beq _ _).2 hx), look_cons]
      by_cases h : s = n
      · rw [if_pos h, h, hx]
        cases hl : look D x.1 with
        | none => rfl
        | some a => exact absurd ((look_key _ _).1 (by rw [hl]; rfl)) hnd.1
      · rw [if_neg h, if_neg (by rw [← hx]; exact h)]
    · rw [if_neg (by rw [bne_ba hx]; decide), look_cons, ih hnd.2, look_cons]
      by_cases h : s = n
      · rw [if_pos h, if_pos h, if_neg (by rw [h]; exact hx)]
      · rw [if_neg h, if_neg h]
/-- What holds of the faces at every time. -/
structure GoodF (D : Fm) : Prop where
  nd : (D.map (·.1)).Nodup
  ok : ∀ x ∈ D, validF x.1 = true
  up : ∀ x ∈ D, x.2.inh = ⟨#[]⟩ ∨ validF x.2.inh = true ∧ (look D x.2.inh).isSome = true
  le : D.length ≤ 256
  ch : Chained D
  d : (look D dflt).isSome = true
theorem validF_size {s : ByteArray} (h : validF s = true) : 1 ≤ s.size ∧ s.size ≤ 64 := by
  unfold validF at h
  simp only [Bool.and_eq_true, decide_eq_true_eq] at h
  omega
theorem validF_ne {s : ByteArray} (h : validF s = true) : s ≠ ⟨#[]⟩ := fun e => by
  have := (validF_size h).1
  rw [e] at this
  exact absurd this (by decide)
theorem lookZ_put_ne {D : Fm} {n s : ByteArray} (a : Att) (h : s ≠ n) : lookZ (putF D n a) s = lookZ D s := by
  unfold lookZ
  rw [look_put, if_neg h]
theorem lookZ_put_eq (D : Fm) (n : ByteArray) (a : Att) : lookZ (putF D n a) n = a := by
  unfold lookZ
  rw [look_put, if_pos rfl]
  rfl
theorem Chain.put_far {D : Fm} {n s : ByteArray} {xs : List ByteArray} (a : Att) (h : Chain D s xs) (hn : n ∉ xs) : Chain (putF D n a) s xs := by
  induction h with
  | nil => exact .nil
  | @cons s l hs _ ih =>
    refine .cons hs ?_
    rw [lookZ_put_ne a (fun e => hn (by rw [e]; exact List.mem_cons_self ..))]
    exact ih fun m => hn (List.mem_cons_of_mem _ m)
theorem Chain.put_any {D : Fm} {n s : ByteArray} {a : Att} {xs ys : List ByteArray} (ha : Chain (putF D n a) a.inh ys) (h : Chain D s xs) : ∃ zs, Chain (putF D n a) s zs := by
  induction h with
  | nil => exact ⟨[], .nil⟩
  | @cons s l hs _ ih =>
    by_cases e : s = n
    · refine ⟨s :: ys, .cons hs ?_⟩
      rw [e, lookZ_put_eq]
      exact ha
    · obtain ⟨zs, hz⟩ := ih
      refine ⟨s :: zs, .cons hs ?_⟩
      rw [lookZ_put_ne a e]
      exact hz
theorem Chain.del {D : Fm} {n s : ByteArray} {xs : List ByteArray} (hnd : (D.map (·.1)).Nodup) (hne : n ≠ ⟨#[]⟩) (hi : (D.any fun x => x.2.inh == n) = false) (h : Chain D s xs) (hs : s ≠ n) : Chain (delF D n) s xs := by
  induction h with
  | nil => exact .nil
  | @cons s l h0 _ ih =>
    have e : lookZ (delF D n) s = lookZ D s := by
      unfold lookZ
      rw [look_del hnd, if_neg hs]
    refine .cons h0 ?_
    rw [e]
    refine ih fun hc => ?_
    unfold lookZ at hc
    cases hl : look D s with
    | none =>
      rw [hl] at hc
      exact hne hc.symm
    | some b =>
      rw [hl] at hc
      have := List.any_eq_false.1 hi _ (look_in hl)
      rw [show b.inh = n from hc, beq_ba] at this
      exact this rfl
noncomputable def defE (D : Fm) (n : ByteArray) (a : Att) : Int := defErr D n a (chainOf D a.inh)
noncomputable def defN (D : Fm) (n : ByteArray) (a : Att) : Fm := if defE D n a = 0 then putF D n a else D
theorem none_iff {α : Type} (o : Option α) : o = none ↔ o.isSome = false := by cases o <;> simp
theorem defE_zero {D : Fm} {n : ByteArray} {a : Att} (h : defE D n a = 0) : validF n = true ∧ withinB a = true ∧ (a.inh = ⟨#[]⟩ ∨ (validF a.inh = true ∧ (look D a.inh).isSome = true ∧ ((chainOf D a.inh).any fun y => y == n) = false)) ∧ ((look D n).isSome = true ∨ D.length < 256) := by
  unfold defE defErr at h
  cases h1 : validF n with
  | false =>
    rw [if_pos h1] at h
    exact absurd h (by decide)
  | true =>
    cases h2 : withinB a with
    | false =>
      rw [if_neg (by rw [h1]; decide), if_pos h2] at h
      exact absurd h (by decide)
    | true =>
      rw [if_neg (by rw [h1]; decide), if_neg (by rw [h2]; decide)] at h
      have hlast : (if look D n = none ∧ 256 ≤ D.length then (7 : Int) else 0) = 0 → ((look D n).isSome = true ∨ D.length < 256) := fun h => by
        by_cases hx : look D n = none ∧ 256 ≤ D.length
        · rw [if_pos hx] at h
          exact absurd h (by decide)
        · cases hl : look D n with
          | none => exact .inr (Nat.lt_of_not_le fun hc => hx ⟨hl, hc⟩)
          | some b => exact .inl rfl
      by_cases h3 : a.inh = ⟨#[]⟩
      · rw [if_pos h3] at h
        exact ⟨rfl, rfl, .inl h3, hlast h⟩
      · rw [if_neg h3] at h
        cases h4 : validF a.inh with
        | false =>
          rw [if_pos h4] at h
          exact absurd h (by decide)
        | true =>
          rw [if_neg (by rw [h4]; decide)] at h
          cases h5 : look D a.inh with
          | none =>
            rw [if_pos h5] at h
            exact absurd h (by decide)
          | some b =>
            rw [if_neg (by rw [h5]; simp)] at h
            cases h6 : (chainOf D a.inh).any fun y => y == n with
            | true =>
              rw [if_pos h6] at h
              exact absurd h (by decide)
            | false =>
              rw [if_neg (by rw [h6]; decide)] at h
              exact ⟨rfl, rfl, .inr ⟨rfl, rfl, rfl⟩, hlast h⟩
theorem GoodF.put {D : Fm} {n : ByteArray} {a : Att} (hG : GoodF D) (hE : defE D n a = 0) : GoodF (putF D n a) := by
  obtain ⟨hv, hw, hp, hl⟩ := defE_zero hE
  have hch : ∃ ys, Chain (putF D n a) a.inh ys := by
    rcases hp with hp | ⟨h1, h2, h3⟩
    · rw [hp]
      exact ⟨[], .nil⟩
    · obtain ⟨xs, hx⟩ := hG.ch a.inh h2
      rw [chainOf_eq hx] at h3
      refine ⟨xs, hx.put_far a fun hm => ?_⟩
      have := List.any_eq_false.1 h3 _ hm
      rw [beq_ba] at this
      exact this rfl
  obtain ⟨ys, hy⟩ := hch
  have hsome : ∀ s, (look D s).isSome = true → (look (putF D n a) s).isSome = true := fun s hs => by
    rw [look_put]
    split
    · rfl
    · exact hs
  refine ⟨?_, ?_, ?_, ?_, ?_, hsome _ hG.d⟩
  · rw [putF_keys]
    split
    · exact hG.nd
    · rename_i h
      exact (List.perm_append_comm.nodup_iff).2 (List.nodup_cons.2 ⟨fun hm => h ((look_key _ _).2 hm), hG.nd⟩)
  · intro x hx
    rcases mem_put hx with rfl | hx
    · exact hv
    · exact hG.ok x hx
  · intro x hx
    rcases mem_put hx with rfl | hx
    · rcases hp with hp | ⟨h1, h2, h3⟩
      · exact .inl hp
      · exact .inr ⟨h1, hsome _ h2⟩
    · rcases hG.up x hx with h | ⟨h1, h2⟩
      · exact .inl h
      · exact .inr ⟨h1, hsome _ h2⟩
  · have e := congrArg List.length (putF_keys D n a)
    rw [List.length_map] at e
    rw [e]
    split
    · rw [List.length_map]
      exact hG.le
    · rename_i h
      rcases hl with hl | hl
      · exact absurd hl h
      · rw [List.length_append, List.length_map, List.length_singleton]
        omega
  · intro s hs
    by_cases e : s = n
    · refine ⟨s :: ys, .cons (by rw [e]; exact validF_ne hv) ?_⟩
      rw [e, lookZ_put_eq]
      exact hy
    · rw [look_put, if_neg e] at hs
      obtain ⟨xs, hx⟩ := hG.ch s hs
      exact Chain.put_any hy hx
theorem GoodF.del {D : Fm} {n : ByteArray} (hG : GoodF D) (hk : (look D n).isSome = true) (hn : n ≠ dflt) (hi : (D.any fun x => x.2.inh == n) = false) : GoodF (delF D n) := by
  have hne : n ≠ ⟨#[]⟩ := by
    obtain ⟨b, hb⟩ := Option.isSome_iff_exists.1 hk
    exact validF_ne (hG.ok _ (look_in hb))
  refine ⟨List.Nodup.sublist (List.Sublist.map _ (delF_sub D n)) hG.nd, fun x hx => hG.ok x ((delF_sub D n).subset hx), fun x hx => ?_, Nat.le_trans (delF_sub D n).length_le hG.le, fun s hs => ?_, ?_⟩
  · have hx' := (delF_sub D n).subset hx
    rcases hG.up x hx' with h | ⟨h1, h2⟩
    · exact .inl h
    · refine .inr ⟨h1, ?_⟩
      rw [look_del hG.nd, if_neg fun e => ?_]
      · exact h2
      · have := List.any_eq_false.1 hi _ hx'
        rw [e, beq_ba] at this
        exact this rfl
  · rw [look_del hG.nd] at hs
    by_cases e : s = n
    · rw [if_pos e] at hs
      cases hs
    · rw [if_neg e] at hs
      obtain ⟨xs, hx⟩ := hG.ch s hs
      exact ⟨xs, hx.del hG.nd hne hi e⟩
  · rw [look_del hG.nd, if_neg (fun e => hn e.symm)]
    exact hG.d
theorem GoodF.defN {D : Fm} (hG : GoodF D) (n : ByteArray) (a : Att) : GoodF (defN D n a) := by
  unfold Ytmjogpacajbngaa.defN
  split
  · rename_i h
    exact hG.put h
  · exact hG
def dropE (D : Fm) (n : ByteArray) : Int := if (look D n).isSome = false then 8 else if n = dflt then 10 else if (D.any fun x => x.2.inh == n) = true then 9 else 0
def dropN (D : Fm) (n : ByteArray) : Fm := if dropE D n = 0 then delF D n else D
theorem GoodF.dropN {D : Fm} (hG : GoodF D) (n : ByteArray) : GoodF (dropN D n) := by
  unfold Ytmjogpacajbngaa.dropN
  split
  · rename_i h
    unfold dropE at h
    by_cases h1 : (look D n).isSome = false
    · rw [if_pos h1] at h
      exact absurd h (by decide)
    rw [if_neg h1] at h
    by_cases h2 : n = dflt
    · rw [if_pos h2] at h
      exact absurd h (by decide)
    rw [if_neg h2] at h
    by_cases h3 : (D.any fun x => x.2.inh == n) = true
    · rw [if_pos h3] at h
      exact absurd h (by decide)
    exact hG.del (by cases hh : (look D n).isSome with | false => exact absurd hh h1 | true => rfl) h2 (by simpa using h3)
  · exact hG
theorem good_new : GoodF [(dflt, attZero)] := by
  refine ⟨by simp, ?_, ?_, by simp, ?_, by kernel_rfl⟩
  · intro x hx
    obtain rfl : x = (dflt, attZero) := by simpa using hx
    kernel_rfl
  · intro x hx
    obtain rfl : x = (dflt, attZero) := by simpa using hx
    exact .inl rfl
  · intro s hs
    obtain ⟨b, hb⟩ := Option.isSome_iff_exists.1 hs
    have := look_in hb
    obtain ⟨rfl, rfl⟩ : s = dflt ∧ b = attZero := by simpa using this
    exact ⟨[dflt], .cons (by decide) .nil⟩
theorem define_any {W w : World} {fb mb : Nat} {D : Fm} {R : Heap} (h : FaAt W w fb mb D R) (hC : Chained D) (n : ByteArray) (a : Att) (hs : n.size < 9223372036854775807) (hs2 : a.inh.size < 9223372036854775807) :
    Calls Try.prog 19 #[.pointer (some ⟨fb, 0, none⟩), .string n, a.val] w fun e w' => e = .returned (.int .i64 (defE D n a)) ∧ FaAt W w' fb mb (defN D n a) R := by
  have no : ∀ k : Int, defE D n a = k → k ≠ 0 → defN D n a = D := fun k h hk => by
    unfold defN
    rw [h, if_neg hk]
  have yes : defE D n a = 0 → defN D n a = putF D n a := fun h => by
    unfold defN
    rw [if_pos h]
  cases h1 : validF n with
  | false =>
    have e : defE D n a = 17 := by
      unfold defE defErr
      rw [if_pos h1]
    rw [no _ e (by decide), e]
    exact define_name h n a hs h1
  | true =>
    have g1 : ¬ validF n = false := by rw [h1]; decide
    cases h2 : withinB a with
    | false =>
      have e : defE D n a = 3 := by
        unfold defE defErr
        rw [if_neg g1, if_pos h2]
      rw [no _ e (by decide), e]
      exact define_range h n a hs h1 h2
    | true =>
      have g2 : ¬ withinB a = false := by rw [h2]; decide
      by_cases h3 : a.inh = ⟨#[]⟩
      · cases hk : (look D n).isSome with
        | true =>
          have e : defE D n a = 0 := by
            unfold defE defErr
            rw [if_neg g1, if_neg g2, if_pos h3, if_neg (by rw [none_iff, hk]; simp)]
          rw [yes e, e]
          exact define_ok1e h n a hs h1 h2 h3 hk
        | false =>
          by_cases hl : 256 ≤ D.length
          · have e : defE D n a = 7 := by
              unfold defE defErr
              rw [if_neg g1, if_neg g2, if_pos h3, if_pos ⟨(none_iff _).2 hk, hl⟩]
            rw [no _ e (by decide), e]
            exact define_fulle h n a hs h1 h2 h3 hk hl
          · have e : defE D n a = 0 := by
              unfold defE defErr
              rw [if_neg g1, if_neg g2, if_pos h3, if_neg (fun hc => hl hc.2)]
            rw [yes e, e]
            exact define_ok2e h n a hs h1 h2 h3 hk (Nat.lt_of_not_le hl)
      · cases h4 : validF a.inh with
        | false =>
          have e : defE D n a = 17 := by
            unfold defE defErr
            rw [if_neg g1, if_neg g2, if_neg h3, if_pos h4]
          rw [no _ e (by decide), e]
          exact define_pname h n a hs h1 h2 h3 hs2 h4
        | true =>
          have g4 : ¬ validF a.inh = false := by rw [h4]; decide
          cases h5 : (look D a.inh).isSome with
          | false =>
            have e : defE D n a = 8 := by
              unfold defE defErr
              rw [if_neg g1, if_neg g2, if_neg h3, if_neg g4, if_pos ((none_iff _).2 h5)]
            rw [no _ e (by decide), e]
            exact define_unknown h n a hs h1 h2 h3 hs2 h4 h5
          | true =>
            have g5 : ¬ look D a.inh = none := by rw [none_iff, h5]; decide
            obtain ⟨xs, hx⟩ := hC a.inh h5
            have hxo := chainOf_eq hx
            cases h6 : xs.any fun y => y == n with
            | true =>
              have e : defE D n a = 16 := by
                unfold defE defErr
                rw [hxo, if_neg g1, if_neg g2, if_neg h3, if_neg g4, if_neg g5, if_pos h6]
              rw [no _ e (by decide), e]
              exact define_loop h n a hs h1 h2 h3 hs2 h4 h5 hx h6
            | false =>
              have g6 : ¬ (xs.any fun y => y == n) = true := by rw [h6]; decide
              cases hk : (look D n).isSome with
              | true =>
                have e : defE D n a = 0 := by
                  unfold defE defErr
                  rw [hxo, if_neg g1, if_neg g2, if_neg h3, if_neg g4, if_neg g5, if_neg g6, if_neg (by rw [none_iff, hk]; simp)]
                rw [yes e, e]
                exact define_ok1i h n a hs h1 h2 h3 hs2 h4 h5 hx h6 hk
              | false =>
                by_cases hl : 256 ≤ D.length
                · have e : defE D n a = 7 := by
                    unfold defE defErr
                    rw [hxo, if_neg g1, if_neg g2, if_neg h3, if_neg g4, if_neg g5, if_neg g6, if_pos ⟨(none_iff _).2 hk, hl⟩]
                  rw [no _ e (by decide), e]
                  exact define_fulli h n a hs h1 h2 h3 hs2 h4 h5 hx h6 hk hl
                · have e : defE D n a = 0 := by
                    unfold defE defErr
                    rw [hxo, if_neg g1, if_neg g2, if_neg h3, if_neg g4, if_neg g5, if_neg g6, if_neg (fun hc => hl hc.2)]
                  rw [yes e, e]
                  exact define_ok2i h n a hs h1 h2 h3 hs2 h4 h5 hx h6 hk (Nat.lt_of_not_le hl)
theorem drop_total {W w : World} {fb mb : Nat} {D : Fm} {R : Heap} (h : FaAt W w fb mb D R) (hd : (look D dflt).isSome = true) (n : ByteArray) :
    Calls Try.prog 21 #[.pointer (some ⟨fb, 0, none⟩), .string n] w fun e w' => e = .returned (.int .i64 (dropE D n)) ∧ FaAt W w' fb mb (dropN D n) R := by
  cases h1 : (look D n).isSome with
  | false =>
    have e : dropE D n = 8 := by
      unfold dropE
      rw [if_pos h1]
    have e2 : dropN D n = D := by
      unfold dropN
      rw [e, if_neg (by decide)]
    rw [e, e2]
    exact drop_unknown h n h1
  | true =>
    have g1 : ¬ (look D n).isSome = false := by rw [h1]; decide
    by_cases h2 : n = dflt
    · subst h2
      have e : dropE D dflt = 10 := by
        unfold dropE
        rw [if_neg g1, if_pos rfl]
      have e2 : dropN D dflt = D := by
        unfold dropN
        rw [e, if_neg (by decide)]
      rw [e, e2]
      exact drop_const h hd
    · refine (drop_any h n h1 h2).mono ?_
      rintro r w' (⟨h3, rfl, hA⟩ | ⟨h3, rfl, hA⟩)
      · have e : dropE D n = 9 := by
          unfold dropE
          rw [if_neg g1, if_neg h2, if_pos h3]
        have e2 : dropN D n = D := by
          unfold dropN
          rw [e, if_neg (by decide)]
        rw [e, e2]
        exact ⟨rfl, hA⟩
      · have e : dropE D n = 0 := by
          unfold dropE
          rw [if_neg g1, if_neg h2, if_neg (by rw [h3]; decide)]
        have e2 : dropN D n = delF D n := by
          unfold dropN
          rw [e, if_pos rfl]
        rw [e, e2]
        exact ⟨rfl, hA⟩
end Go.Proofs.Ytmjogpacajbngaa
