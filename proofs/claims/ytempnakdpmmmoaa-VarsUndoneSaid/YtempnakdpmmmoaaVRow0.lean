/- What the rows of the variables' laws with acts have in common: acts that come in. No condition but those written. -/
import Derived.Test.YtempnakdpmmmoaaVgv
import Derived.Test.YtempnakdpmmmoaaRows
import Derived.ProofKit
import Derived.OpenShut
import Derived.Lib.SmallJoins
import Derived.Deep.DeepHandedRow
namespace Go.Proofs.Ytempnakdpmmmoaa.varsRow
open Go.ChangeShapes Go.WideShapes Go.ChangeAt Go.RowKit Go.Lib Go.Deep

theorem own : ownKnob Try.prog.godebug = none := by kernel_rfl
theorem laidOut : laidOutB Try.prog = true := by kernel_rfl
theorem cInt : Try.prog.cellsOf 3 = 1 := by kernel_rfl
section
variable {H : Type} {enc : TypeId × Value → H} {w : World} {base : Nat} {sp : Nat → Bool} {held : Bool}
theorem field_at {P : Program} {fs : Array Field} {n : Nat} {cs : List Value} {xs : List (DataW H × List MemPlace)} (hall : ∀ (i : Nat) (f : Field), fs[i]? = some f → DataW.trod enc P w base sp held n f.type ((cs.drop f.offset).take (P.cellsOf f.type)) = xs[i]?)
    (i : Nat) (t : TypeId) (off c : Nat) (hf : (fs[i]?).map (fun f => (f.type, f.offset)) = some (t, off)) (hc : P.cellsOf t = c) : DataW.trod enc P w base sp held n t ((cs.drop off).take c) = xs[i]? := by
  obtain ⟨f, h1, h2⟩ := Option.map_eq_some_iff.1 hf
  simp only [Prod.mk.injEq] at h2
  obtain ⟨rfl, rfl⟩ := h2
  subst hc
  exact hall i f h1
end
section
variable {H : Type} {enc : TypeId × Value → H} {w : World} {base : Nat} {held : Bool}
/-- A slice of rows that came in. -/
theorem open_rows {α : Type} {cells : α → List Value} {K : Nat} {P : Program} {good : α → Prop} {t e : TypeId} (hL : ∀ a, (cells a).length = K) (hK : 0 < K) (ht : P.underlying t = some (.slice e)) (hc : P.cellsOf e = K)
    (hof : ∀ {n : Nat} {cs : List Value} {x : DataW H × List MemPlace}, DataW.trod enc P w base (fun _ => true) held n e cs = some x → ∃ a, cs = cells a ∧ good a)
    {fuel : Nat} {cs : List Value} {x : DataW H × List MemPlace} (h : DataW.trod enc P w base (fun _ => true) held fuel t cs = some x) :
    ∃ A c, ∃ l : List α, cs = [.slice A l.length c] ∧ l.length ≤ maxLen ∧ Rd w (.slice A l.length c) K l.length (rows cells l) ∧ ∀ a ∈ l, good a := by
  rcases open_slice ht h with ⟨rfl, _⟩ | ⟨a, len, cap, m, n, D, Pl, rfl, _, hl, hm, hmm, _, hi⟩
  · exact ⟨none, 0, [], rfl, Nat.zero_le _, Rd.nil _ _, fun _ h => nomatch h⟩
  · simp only [if_true] at hmm
    have key : ∀ k, k ≤ len → ∃ l : List α, l.length = k ∧ (∀ i b, l[i]? = some b → ∀ j u, (cells b)[j]? = some u → w.cell? (a.add (i * K + j)) = some u) ∧ ∀ a ∈ l, good a := by
      intro k
      induction k with
      | zero => exact fun _ => ⟨[], rfl, fun i b hb => by simp at hb, fun _ h => nomatch h⟩
      | succ k ih =>
        intro hk
        obtain ⟨l, hl1, hl2, hl3⟩ := ih (by omega)
        obtain ⟨cs', hc', ht'⟩ := hi k (by omega)
        rw [hc] at hc'
        obtain ⟨b, rfl, hgb⟩ := hof ht'
        obtain ⟨_, _, hat⟩ := World.cells?_some hc'
        refine ⟨l ++ [b], by simp [hl1], fun i c hic j u hju => ?_, fun y hy => ?_⟩
        · by_cases e : i < l.length
          · rw [List.getElem?_append_left e] at hic
            exact hl2 i c hic j u hju
          · rw [List.getElem?_append_right (by omega)] at hic
            have e2 : i = k := by
              have := (List.getElem?_eq_some_iff.1 hic).1
              simp at this
              omega
            subst e2
            rw [hl1, Nat.sub_self] at hic
            simp at hic
            subst hic
            have hj : j < K := by have := (List.getElem?_eq_some_iff.1 hju).1; rwa [hL] at this
            have h1 := hat j hj
            rw [← Go.Deep.add_add, h1]
            rw [← hju]
        · rcases List.mem_append.1 hy with hy | hy
          · exact hl3 y hy
          · simp only [List.mem_singleton] at hy
            rw [hy]
            exact hgb
    obtain ⟨l, hl1, hl2, hl3⟩ := key len (Nat.le_refl _)
    refine ⟨some a, cap, l, by rw [hl1], by rw [hl1]; omega, ?_, hl3⟩
    refine ⟨_, _, rfl, by rw [rows_len hL], fun hp => ?_⟩
    obtain ⟨b0, hb0⟩ : ∃ b0, l[0]? = some b0 := ⟨_, List.getElem?_eq_getElem hp⟩
    obtain ⟨u0, hu0⟩ : ∃ u0, (cells b0)[0]? = some u0 := ⟨_, List.getElem?_eq_getElem (by rw [hL]; exact hK)⟩
    have h0 := hl2 0 b0 hb0 0 _ hu0
    obtain ⟨bk, off, spot⟩ := a
    have hspot : spot = none := by simpa [Addr.add] using World.cell?_spot h0
    subst hspot
    refine ⟨bk, off, rfl, fun j u hu => ?_⟩
    have hjl : j < l.length * K := by have := (List.getElem?_eq_some_iff.1 hu).1; rwa [rows_len hL] at this
    have hdm : j / K * K + j % K = j := by rw [Nat.mul_comm]; exact Nat.div_add_mod j K
    obtain ⟨b, hb⟩ : ∃ b, l[j / K]? = some b := ⟨_, List.getElem?_eq_getElem (Nat.div_lt_of_lt_mul (by rw [Nat.mul_comm]; exact hjl))⟩
    have e := rows_at hL l (j / K) (j % K) b hb (Nat.mod_lt _ hK)
    rw [hdm] at e
    have h1 := hl2 (j / K) b hb (j % K) u (by rw [← e]; exact hu)
    rw [hdm] at h1
    rwa [Addr.add_lit] at h1
theorem cWord : Try.prog.cellsOf 29 = 2 := by kernel_rfl
theorem cAct : Try.prog.cellsOf 47 = 5 := by kernel_rfl
set_option maxRecDepth 100000 in
theorem word_of {fuel : Nat} {cs : List Value} {x : DataW H × List MemPlace} (h : DataW.trod enc Try.prog w base (fun _ => true) held fuel 29 cs = some x) : ∃ k v : Int, cs = [.int .i64 k, .int .i64 v] := by
  obtain ⟨xs, n, rfl, -, hl, hxl, hall⟩ := DataW.trod_struct Try.underlying29 h
  rw [cWord] at hl
  match cs, hl with
  | [v0, v1], _ =>
    match xs, hxl with
    | [y0, y1], _ =>
      obtain ⟨z0, q0, _⟩ := DataW.trod_int Try.underlying3 (show DataW.trod enc Try.prog w base (fun _ => true) held n 3 [v0] = some y0 from field_at hall 0 3 0 1 rfl cInt)
      obtain ⟨z1, q1, _⟩ := DataW.trod_int Try.underlying3 (show DataW.trod enc Try.prog w base (fun _ => true) held n 3 [v1] = some y1 from field_at hall 1 3 1 1 rfl cInt)
      simp only [List.cons.injEq, and_true] at q0 q1
      exact ⟨z0, z1, by rw [q0, q1]⟩
set_option maxRecDepth 100000 in
theorem act_of {fuel : Nat} {cs : List Value} {x : DataW H × List MemPlace} (h : DataW.trod enc Try.prog w base (fun _ => true) held fuel 47 cs = some x) : ∃ a : Vac, cs = a.cells ∧ True := by
  obtain ⟨xs, n, rfl, -, hl, hxl, hall⟩ := DataW.trod_struct Try.underlying47 h
  rw [cAct] at hl
  match cs, hl with
  | [v0, v1, v2, v3, v4], _ =>
    match xs, hxl with
    | [y0, y1, y2, y3], _ =>
      obtain ⟨z0, q0, _⟩ := DataW.trod_int Try.underlying3 (show DataW.trod enc Try.prog w base (fun _ => true) held n 3 [v0] = some y0 from field_at hall 0 3 0 1 rfl cInt)
      obtain ⟨z1, q1, _⟩ := DataW.trod_int Try.underlying3 (show DataW.trod enc Try.prog w base (fun _ => true) held n 3 [v1] = some y1 from field_at hall 1 3 1 1 rfl cInt)
      obtain ⟨z2, q2, _⟩ := DataW.trod_int Try.underlying3 (show DataW.trod enc Try.prog w base (fun _ => true) held n 3 [v2] = some y2 from field_at hall 2 3 2 1 rfl cInt)
      obtain ⟨k, v, q3⟩ := word_of (show DataW.trod enc Try.prog w base (fun _ => true) held n 29 [v3, v4] = some y3 from field_at hall 3 29 3 2 rfl cWord)
      simp only [List.cons.injEq, and_true] at q0 q1 q2 q3
      exact ⟨⟨z0, z1, z2, k, v⟩, by rw [q0, q1, q2, q3.1, q3.2]; rfl, trivial⟩
/-- A slice of acts that came in. -/
theorem open_acts {fuel : Nat} {cs : List Value} {x : DataW H × List MemPlace} (h : DataW.trod enc Try.prog w base (fun _ => true) held fuel 44 cs = some x) : ∃ A c, ∃ l : List Vac, cs = [.slice A l.length c] ∧ l.length ≤ maxLen ∧ Rd w (.slice A l.length c) 5 l.length (rows Vac.cells l) := by
  obtain ⟨A, c, l, h1, h2, h3, h4⟩ := open_rows vac_len (by omega) Try.underlying44 cAct (fun h => act_of h) h
  exact ⟨A, c, l, h1, h2, h3⟩
end
end Go.Proofs.Ytempnakdpmmmoaa.varsRow
