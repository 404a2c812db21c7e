/- What the rows of the faces' laws have in common: acts that come in, lists of strings. No condition but those written. -/
import Derived.Test.YtmjogpacajbngaaFRow0
import Derived.Test.YtmjogpacajbngaaGa
import Derived.Deep.DeepHandedRow
namespace Go.Proofs.Ytmjogpacajbngaa.facesRow
open Go.ChangeShapes Go.WideShapes Go.ChangeAt Go.RowKit Go.Lib Go.Deep

section
variable {H : Type} {enc : TypeId × Value → H} {w : World} {base : Nat} {sp : Nat → Bool} {held : Bool}
theorem cAct : Try.prog.cellsOf 56 = 8 := by kernel_rfl
set_option maxRecDepth 100000 in
theorem act_of {fuel : Nat} {cs : List Value} {x : DataW H × List MemPlace} (h : DataW.trod enc Try.prog w base sp held fuel 56 cs = some x) : ∃ a : Fac, cs = a.cells := by
  obtain ⟨xs, n, rfl, -, hl, hxl, hall⟩ := DataW.trod_struct Try.underlying56 h
  rw [cAct] at hl
  match cs, hl with
  | [v0, v1, v2, v3, v4, v5, v6, v7], _ =>
    match xs, hxl with
    | [y0, y1, y2], _ =>
      obtain ⟨z0, q0, _⟩ := DataW.trod_int Try.underlying3 (show DataW.trod enc Try.prog w base sp held n 3 [v0] = some y0 from field_at hall 0 3 0 1 rfl cInt)
      obtain ⟨z1, q1, _⟩ := DataW.trod_string Try.underlying9 (show DataW.trod enc Try.prog w base sp held n 9 [v1] = some y1 from field_at hall 1 9 1 1 rfl cStr)
      obtain ⟨a, q2⟩ := att_of (show DataW.trod enc Try.prog w base sp held n 23 [v2, v3, v4, v5, v6, v7] = some y2 from field_at hall 2 23 2 6 rfl cAtt)
      simp only [List.cons.injEq, and_true] at q0 q1 q2
      obtain ⟨r2, r3, r4, r5, r6, r7⟩ := q2
      exact ⟨⟨z0, z1, a.fo, a.ba, a.bo, a.un, a.iv, a.inh⟩, by rw [q0, q1, r2, r3, r4, r5, r6, r7]⟩
/-- A slice of acts that came in. -/
theorem open_acts {fuel : Nat} {cs : List Value} {x : DataW H × List MemPlace} (h : DataW.trod enc Try.prog w base (fun _ => true) held fuel 51 cs = some x) : ∃ A c, ∃ l : List Fac, cs = [.slice A l.length c] ∧ l.length ≤ maxLen ∧ Rd w (.slice A l.length c) 8 l.length (rows Fac.cells l) := by
  rcases open_slice Try.underlying51 h with ⟨rfl, _⟩ | ⟨a, len, cap, m, n, D, Pl, rfl, _, hl, hm, hmm, _, hi⟩
  · exact ⟨none, 0, [], rfl, Nat.zero_le _, Rd.nil _ _⟩
  · simp only [if_true] at hmm
    have key : ∀ k, k ≤ len → ∃ l : List Fac, l.length = k ∧ ∀ i b, l[i]? = some b → ∀ j u, b.cells[j]? = some u → w.cell? (a.add (i * 8 + j)) = some u := by
      intro k
      induction k with
      | zero => exact fun _ => ⟨[], rfl, fun i b hb => by simp at hb⟩
      | succ k ih =>
        intro hk
        obtain ⟨l, hl1, hl2⟩ := ih (by omega)
        obtain ⟨cs', hc, ht⟩ := hi k (by omega)
        rw [cAct] at hc
        obtain ⟨b, rfl⟩ := act_of ht
        obtain ⟨_, _, hat⟩ := World.cells?_some hc
        refine ⟨l ++ [b], by simp [hl1], fun i c hic j u hju => ?_⟩
        by_cases e : i < l.length
        · rw [List.getElem?_append_left e] at hic
          exact hl2 i c hic j u hju
        · rw [List.getElem?_append_right (by omega)] at hic
          have e2 : i = k := by
            have := (List.getElem?_eq_some_iff.1 hic).1
            simp at this
            omega
          subst e2
          rw [hl1, Nat.sub_self] at hic
          simp at hic
          subst hic
          have hj : j < 8 := by have := (List.getElem?_eq_some_iff.1 hju).1; simpa [Fac.cells] using this
          have h1 := hat j hj
          rw [← Go.Deep.add_add, h1]
          rw [← hju]
    obtain ⟨l, hl1, hl2⟩ := key len (Nat.le_refl _)
    refine ⟨some a, cap, l, by rw [hl1], by rw [hl1]; omega, ?_⟩
    refine ⟨_, _, rfl, by rw [rows_len fac_len], fun hp => ?_⟩
    obtain ⟨b0, hb0⟩ : ∃ b0, l[0]? = some b0 := ⟨_, List.getElem?_eq_getElem hp⟩
    have h0 := hl2 0 b0 hb0 0 _ rfl
    obtain ⟨bk, off, spot⟩ := a
    have hspot : spot = none := by simpa [Addr.add] using World.cell?_spot h0
    subst hspot
    refine ⟨bk, off, rfl, fun j u hu => ?_⟩
    have hjl : j < l.length * 8 := by have := (List.getElem?_eq_some_iff.1 hu).1; rwa [rows_len fac_len] at this
    obtain ⟨b, hb⟩ : ∃ b, l[j / 8]? = some b := ⟨_, List.getElem?_eq_getElem (by omega)⟩
    have e := rows_at fac_len l (j / 8) (j % 8) b hb (Nat.mod_lt _ (by omega))
    rw [show j / 8 * 8 + j % 8 = j by omega] at e
    have h1 := hl2 (j / 8) b hb (j % 8) u (by rw [← e]; exact hu)
    rw [show j / 8 * 8 + j % 8 = j by omega] at h1
    rwa [Addr.add_lit] at h1
/-- A slice of strings that came in. -/
theorem open_strs {fuel : Nat} {cs : List Value} {x : DataW H × List MemPlace} (h : DataW.trod enc Try.prog w base (fun _ => true) held fuel 39 cs = some x) : ∃ A c, ∃ l : List ByteArray, cs = [.slice A l.length c] ∧ l.length ≤ maxLen ∧ Rd w (.slice A l.length c) 1 l.length (strs l) := by
  rcases open_slice Try.underlying39 h with ⟨rfl, _⟩ | ⟨a, len, cap, m, n, D, Pl, rfl, _, hl, hm, hmm, _, hi⟩
  · exact ⟨none, 0, [], rfl, Nat.zero_le _, Rd.nil _ _⟩
  · simp only [if_true] at hmm
    have key : ∀ k, k ≤ len → ∃ l : List ByteArray, l.length = k ∧ ∀ i b, l[i]? = some b → w.cell? (a.add i) = some (.string b) := by
      intro k
      induction k with
      | zero => exact fun _ => ⟨[], rfl, fun i b hb => by simp at hb⟩
      | succ k ih =>
        intro hk
        obtain ⟨l, hl1, hl2⟩ := ih (by omega)
        obtain ⟨cs', hc, ht⟩ := hi k (by omega)
        rw [cStr] at hc
        obtain ⟨hlen, _, hat⟩ := World.cells?_some hc
        match cs', hlen with
        | [v0], _ =>
          obtain ⟨b, q0, _⟩ := DataW.trod_string Try.underlying9 ht
          simp only [List.cons.injEq, and_true] at q0
          subst q0
          refine ⟨l ++ [b], by simp [hl1], fun i c hic => ?_⟩
          by_cases e : i < l.length
          · rw [List.getElem?_append_left e] at hic
            exact hl2 i c hic
          · rw [List.getElem?_append_right (by omega)] at hic
            have e2 : i = k := by
              have := (List.getElem?_eq_some_iff.1 hic).1
              simp at this
              omega
            subst e2
            rw [hl1, Nat.sub_self] at hic
            simp at hic
            subst hic
            have h1 := hat 0 (by omega)
            simpa [Addr.add] using h1
    obtain ⟨l, hl1, hl2⟩ := key len (Nat.le_refl _)
    refine ⟨some a, cap, l, by rw [hl1], by rw [hl1]; omega, ?_⟩
    refine ⟨_, _, rfl, by simp [strs], fun hp => ?_⟩
    obtain ⟨b0, hb0⟩ : ∃ b0, l[0]? = some b0 := ⟨_, List.getElem?_eq_getElem hp⟩
    have h0 := hl2 0 b0 hb0
    obtain ⟨bk, off, spot⟩ := a
    have hspot : spot = none := by simpa [Addr.add] using World.cell?_spot h0
    subst hspot
    refine ⟨bk, off, rfl, fun j u hu => ?_⟩
    unfold strs at hu
    rw [List.getElem?_map] at hu
    obtain ⟨b, hb, rfl⟩ := Option.map_eq_some_iff.1 hu
    have h1 := hl2 j b hb
    rwa [Addr.add_lit] at h1
end
end Go.Proofs.Ytmjogpacajbngaa.facesRow
