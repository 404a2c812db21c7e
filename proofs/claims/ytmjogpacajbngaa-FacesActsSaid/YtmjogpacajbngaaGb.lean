/- FacesInherits: the plain laws; says. No condition but those written. -/
import Derived.Test.YtmjogpacajbngaaFz
import Derived.Test.YtmjogpacajbngaaGa
namespace Go.Proofs.Ytmjogpacajbngaa
open Go.RowKit

theorem first_zero_l (b : Int) : first 0 b = b := if_pos rfl
theorem over_drop (a b c : Att) : over a (over (over attZero b) c) = over a (over b c) := by
  unfold over
  simp only [first_zero_l]
theorem foldl_over (D : Fm) (xs : List ByteArray) : ∀ a0 : Att, xs.foldl (fun a s => over a (lookZ D s)) a0 = over a0 (fullOf D xs) := by
  induction xs with
  | nil => exact fun a0 => (over_zero a0 _).symm
  | cons x xs ih =>
    intro a0
    show xs.foldl _ (over a0 (lookZ D x)) = over a0 (xs.foldl _ (over attZero (lookZ D x)))
    rw [ih, ih, over_drop, over_assoc]
theorem look_empty {D : Fm} (hG : GoodF D) : (look D ⟨#[]⟩).isSome = false := by
  cases h : look D ⟨#[]⟩ with
  | none => rfl
  | some b => exact absurd rfl (validF_ne (hG.ok _ (look_in h)))
theorem full_one {D : Fm} (hG : GoodF D) {s : ByteArray} (hs : (look D s).isSome = true) : fullA D s = over (over attZero (lookZ D s)) (fullA D (lookZ D s).inh) := by
  obtain ⟨xs, hx⟩ := hG.ch s hs
  rw [full_at hx hs]
  cases hx with
  | nil => rw [look_empty hG] at hs; cases hs
  | @cons _ ys hne hy =>
    have e : fullA D (lookZ D s).inh = fullOf D ys := by
      by_cases hi : (lookZ D s).inh = ⟨#[]⟩
      · rw [hi] at hy ⊢
        cases hy with
        | nil => exact fullA_no (look_empty hG)
        | cons h _ => exact absurd rfl h
      · refine full_at hy ?_
        obtain ⟨b, hb⟩ := Option.isSome_iff_exists.1 hs
        have e : lookZ D s = b := by
          unfold lookZ
          rw [hb]
          rfl
        rw [e] at hi ⊢
        rcases hG.up _ (look_in hb) with h | h
        · exact absurd h hi
        · exact h.2
    rw [e]
    show ys.foldl _ (over attZero (lookZ D s)) = _
    exact foldl_over D ys _
theorem full_v {D : Fm} (hG : GoodF D) {s : ByteArray} (hs : (look D s).isSome = true) {own up v : Att} (h1 : own = lookZ D s) (h2 : up = fullA D own.inh) (h3 : v = over own up) : fullA D s = ⟨v.fo, v.ba, v.bo, v.un, v.iv, ⟨#[]⟩⟩ := by
  rw [full_one hG hs, ← h1, ← h2, h3]
  unfold over
  simp only [first_zero_l]
theorem up_e {D : Fm} (hG : GoodF D) {s : ByteArray} (hs : (look D s).isSome = true) : (lookZ D s).inh = ⟨#[]⟩ ∨ fullE D (lookZ D s).inh = 0 := by
  obtain ⟨b, hb⟩ := Option.isSome_iff_exists.1 hs
  have e : lookZ D s = b := by
    unfold lookZ
    rw [hb]
    rfl
  rw [e]
  rcases hG.up _ (look_in hb) with h | h
  · exact .inl h
  · refine .inr ?_
    unfold fullE
    rw [if_pos h.2]
theorem names_mem (D : Fm) (s : ByteArray) : s ∈ namesF D ↔ (look D s).isSome = true := by
  rw [look_key]
  unfold namesF
  simp only [List.mem_map, List.mem_mergeSort]
  constructor
  · rintro ⟨l, ⟨x, hx, rfl⟩, rfl⟩
    exact ⟨x, hx, by simp⟩
  · rintro ⟨x, hx, rfl⟩
    exact ⟨_, ⟨x, hx, rfl⟩, by simp⟩
theorem names_asc {D : Fm} (hnd : (D.map (·.1)).Nodup) {k : Nat} {x y : ByteArray} (hx : (namesF D)[k]? = some x) (hy : (namesF D)[k + 1]? = some y) : Op.bytesLess y.toList x.toList = false ∧ (y.toList == x.toList) = false := by
  have tr : ∀ a b c : List UInt8, leB a b = true → leB b c = true → leB a c = true := fun a b c h1 h2 => by simp only [leB, decide_eq_true_eq] at *; exact List.le_trans h1 h2
  have to : ∀ a b : List UInt8, (leB a b || leB b a) = true := fun a b => by simp only [leB, Bool.or_eq_true, decide_eq_true_eq]; exact List.le_total a b
  have hp := List.pairwise_mergeSort tr to (D.map (·.1.data.toList))
  have hn : (D.map (·.1.data.toList)).Nodup := by
    have e : D.map (·.1.data.toList) = (D.map (·.1)).map (·.data.toList) := by simp [List.map_map]
    rw [e]
    refine List.pairwise_map.2 (hnd.imp fun h e => h ?_)
    exact ByteArray.ext (Array.toList_inj.1 e)
  have hn2 : ((D.map (·.1.data.toList)).mergeSort leB).Nodup := ((List.mergeSort_perm _ leB).nodup_iff).2 hn
  unfold namesF at hx hy
  rw [List.getElem?_map] at hx hy
  obtain ⟨a, ha, rfl⟩ := Option.map_eq_some_iff.1 hx
  obtain ⟨b, hb, rfl⟩ := Option.map_eq_some_iff.1 hy
  obtain ⟨h1, rfl⟩ := List.getElem?_eq_some_iff.1 ha
  obtain ⟨h2, rfl⟩ := List.getElem?_eq_some_iff.1 hb
  have hle := (List.pairwise_iff_getElem.1 hp) k (k + 1) h1 h2 (Nat.lt_succ_self k)
  have hne := (List.pairwise_iff_getElem.1 hn2) k (k + 1) h1 h2 (Nat.lt_succ_self k)
  simp only [leB, decide_eq_true_eq] at hle
  rw [ByteArray.toList_eq, ByteArray.toList_eq]
  refine ⟨?_, ?_⟩
  · rw [bytesLess_eq]
    exact decide_eq_false (by simpa using hle)
  · rw [beq_eq_false_iff_ne]
    exact fun e => hne (by simpa using e.symm)
theorem two_below (w : World) (o1 o2 : Obj) : Below w.heap.size w ((w.alloc o1).alloc o2) := ((Below.refl _ _).alloc (Nat.le_refl _) _).alloc (by simp) _
set_option maxRecDepth 100000 in
set_option maxHeartbeats 8000000 in
theorem says_yes (own up v : Att) (hv : v = over own up) (w : World) : Calls Try.prog 31 #[own.val, (⟨v.fo, v.ba, v.bo, v.un, v.iv, ⟨#[]⟩⟩ : Att).val] w fun e w' => e = .returned (.bool true) ∧ Below w.heap.size w w' := by
  obtain ⟨p0, p1, p2, p3, p4, p5⟩ := own
  obtain ⟨q0, q1, q2, q3, q4, q5⟩ := v
  have hh : ∀ p u : Int, p = 0 ∨ first p u = p := fun p u => by
    unfold first
    by_cases h : p = 0
    · exact .inl h
    · exact .inr (if_neg h)
  have h0 : p0 = 0 ∨ q0 = p0 := by have := congrArg Att.fo hv; rw [show q0 = first p0 up.fo from this]; exact hh _ _
  have h1 : p1 = 0 ∨ q1 = p1 := by have := congrArg Att.ba hv; rw [show q1 = first p1 up.ba from this]; exact hh _ _
  have h2 : p2 = 0 ∨ q2 = p2 := by have := congrArg Att.bo hv; rw [show q2 = first p2 up.bo from this]; exact hh _ _
  have h3 : p3 = 0 ∨ q3 = p3 := by have := congrArg Att.un hv; rw [show q3 = first p3 up.un from this]; exact hh _ _
  have h4 : p4 = 0 ∨ q4 = p4 := by have := congrArg Att.iv hv; rw [show q4 = first p4 up.iv from this]; exact hh _ _
  clear hh hv
  have H0 := hide h0
  have H1 := hide h1
  have H2 := hide h2
  have H3 := hide h3
  have H4 := hide h4
  clear h0 h1 h2 h3 h4
  go_enter Try.func31, Try.ntmps31
  go_wp2
  all_goals first
    | (go_ret
       exact ⟨rfl, two_below _ _ _⟩)
    | (go_ret
       refine ⟨?_, two_below _ _ _⟩
       have h4 : q4 = p4 := H4.out.resolve_left (by assumption)
       simp [h4])
    | (exfalso; have := H0.out; have := H1.out; have := H2.out; have := H3.out; have := H4.out; simp_all; done)
end Go.Proofs.Ytmjogpacajbngaa
