/- A set of buffers of the law's own, and rows of the law's own beside it. No condition but those written. -/
import Derived.Test.YtnbhejbpofjamaaGreatDoorBms
namespace Go.Proofs.YtnbhejbpofjamaaGreatDoor
open Go.RowKit

section
variable {W w w' : World} {sb : Nat} {s : Bst} {tx : Nat → Bz} {k : Nat} {R R' : Heap}
/-- What lies beside the set may turn. -/
theorem LZ.reR (h : LZ W w sb s tx k R) (ho : ∀ L, Own W w (L ++ R) → Own W w' (L ++ R')) : LZ W w' sb s tx k R' := by
  obtain ⟨D, ⟨b, hb, h1⟩, h2⟩ := h.at_
  refine ⟨⟨D, ⟨b, hb, h1.reR ?_⟩, h2⟩, h.ok, h.bn, h.nn, h.nv, h.nz, h.nx, h.tk, h.cu⟩
  have h3 := h1.own
  rw [← List.append_assoc] at h3 ⊢
  exact ho _ h3
theorem LZ.sub (h : LZ W w sb s tx k R) (hs : R'.Sublist R) : LZ W w sb s tx k R' := h.reR fun L ho => ho.sub ((List.Sublist.refl L).append hs)
theorem LZ.perm (h : LZ W w sb s tx k R) (hp : R.Perm R') : LZ W w sb s tx k R' := h.reR fun L ho => ho.perm (hp.append_left L)
theorem LZ.dropL {A : Heap} (h : LZ W w sb s tx k (A ++ R)) : LZ W w sb s tx k R := h.sub (List.sublist_append_right _ _)
theorem LZ.ownR (h : LZ W w sb s tx k R) : Own W w R := by
  obtain ⟨D, ⟨b, hb, h1⟩, h2⟩ := h.at_
  exact h1.own.right.right
theorem LZ.join {T : TypeId} {kk n : Nat} {v : Value} {xs : List Value} (h : LZ W w sb s tx k R) (hb : Below w.heap.size w w') (hs : Sl w' T kk v n xs) (hf : ∀ g, v.ownBlock = some g → w.heap.size ≤ g) : LZ W w' sb s tx k (rowOf T kk v n xs ++ R) :=
  h.reR fun _ ho => (ho.joinRow hb hs hf).perm (List.perm_append_comm_assoc _ _ _)
theorem LZ.appended {T : TypeId} {kk n n' : Nat} {v v' : Value} {xs xs' : List Value} (h : LZ W w sb s tx k (rowOf T kk v n xs ++ R)) (hs : Sl w' T kk v' n' xs') (ho : Only (fun b => v.ownBlock = some b) w w') (hv : v'.ownBlock = v.ownBlock ∨ v'.ownBlock = some w.heap.size) : LZ W w' sb s tx k (rowOf T kk v' n' xs' ++ R) :=
  h.reR fun _ h1 => ((h1.perm (List.perm_append_comm_assoc _ _ _)).appended hs ho hv).perm (List.perm_append_comm_assoc _ _ _)
theorem LZ.rowSl {T : TypeId} {kk n : Nat} {v : Value} {xs : List Value} (h : LZ W w sb s tx k R) (hx : ∀ x, x ∈ rowOf T kk v n xs → x ∈ R) (hl : xs.length = n * kk) (ok : RowOk v n) : Sl w T kk v n xs := h.ownR.slOf hx hl ok
theorem LZ.newMap (h : LZ W w sb s tx k R) : LZ W (w.alloc (.map #[] 0)) sb s tx k ((w.heap.size, .map []) :: R) :=
  h.reR fun _ ho => (ho.newMap).perm List.perm_middle.symm
theorem LZ.turnMap {g : Nat} {m m' : List (Value × Value)} (h : LZ W w sb s tx k ((g, .map m) :: R)) (ho : Only (· = g) w w') (hm : MapIs w' g m') : LZ W w' sb s tx k ((g, .map m') :: R) :=
  h.reR fun _ h1 => ((h1.perm List.perm_middle).turn (b := .map m') ho hm).perm List.perm_middle.symm
/-- A fresh list that reads as the order, a row of the law's own. -/
def ListO (w : World) (l : List Nat) (e : Ending) (w' : World) : Prop := ∃ v, e = .returned v ∧ IntSl w' v l ∧ (∀ g, v.ownBlock = some g → w.heap.size ≤ g) ∧ Below w.heap.size w w'
theorem list_own {b : Bb} (h : BAt W w b s R) (hl : s.order.length ≤ 1000000) : Calls Tryz.prog 12 #[.pointer (some ⟨b.sb, 0, none⟩)] w (ListO w s.order) := by
  have c1 := h.c1
  have HN := hide (bnone_any h)
  have HC := hide (clone_ints b.ov s.order.length (ints s.order) w h.sl.rd (ints_one _) hl)
  clear h hl
  go_enter Tryz.func12, Tryz.ntmps12
  go_wp2_with (first | (go_at_call 44; refine (Calls.mono HN.out) ?_; rintro e w' ⟨rfl, rfl⟩) | (go_at_call 45; refine (Calls.mono HC.out) ?_; rintro e w' ⟨v, rfl, hs, hf, hb⟩))
  have HS := hide hs
  have HB := hide hb
  have HF := hide hf
  clear hs hf hb
  go_ret
  exact ⟨v, rfl, HS.out, HF.out, HB.out⟩
theorem LZ.listO (h : LZ W w sb s tx k R) (hk : k ≤ 900) : Calls Tryz.prog 12 #[.pointer (some ⟨sb, 0, none⟩)] w (ListO w s.order) := by
  have hl := h.len
  obtain ⟨D, ⟨b, rfl, h1⟩, _⟩ := h.at_
  exact list_own h1 (by omega)
end

/-! ### Plain: the front of the order -/
/-- What the law makes of the front. -/
def frN (F : List Nat) (p e : Int) (i : Int) : List Nat :=
  if e = 0 ∧ p ≠ 8 ∧ p ≠ 4 ∧ p ≠ 3 ∧ 1 < p then
    (if p = 5 ∨ p = 6 then i.toNat :: F.filter (fun y : Nat => decide ((y : Int) ≠ i)) else F.filter fun y : Nat => decide ((y : Int) ≠ i))
  else F
theorem filter_erase {F : List Nat} (h : F.Nodup) (i : Nat) : F.filter (fun y : Nat => decide ((y : Int) ≠ (i : Int))) = F.erase i := by
  rw [h.erase_eq_filter]
  refine List.filter_congr fun x _ => ?_
  by_cases e : x = i
  · subst e; simp
  · have h1 : ((x : Int) ≠ (i : Int)) := by omega
    have h2 : (x != i) = true := by simpa using e
    rw [decide_eq_true h1, h2]
theorem prefix_erase {F O : List Nat} (h : F <+: O) (hn : O.Nodup) (i : Nat) : F.erase i <+: O.erase i := by
  obtain ⟨T, rfl⟩ := h
  by_cases hi : i ∈ F
  · rw [List.erase_append_left _ hi]
    exact List.prefix_append _ _
  · rw [List.erase_append_right _ hi, List.erase_of_not_mem hi]
    exact List.prefix_append _ _
theorem DoR.next {s : Bst} {tx : Nat → Bz} {a : Ab} {s' : Bst} {tx' : Nat → Bz} (h : DoR s tx a s' tx') : s'.next = if a.p ≤ 1 ∧ doE s tx a = 0 then s.next + 1 else s.next := by
  unfold DoR at h
  unfold doE
  split at h
  · rename_i hp
    rw [if_pos hp]
    by_cases h0 : creE s a.n = 0
    · obtain ⟨g, bp, _, rfl, _⟩ := h.2 h0
      rw [if_pos ⟨hp, h0⟩]
      rfl
    · obtain ⟨rfl, _⟩ := h.1 h0
      rw [if_neg fun h9 => h0 h9.2]
  · rename_i hp
    rw [if_neg fun h9 => hp h9.1]
    split at h
    · obtain ⟨rfl, _⟩ := h; split <;> rfl
    · split at h
      · obtain ⟨rfl, _⟩ := h; split <;> rfl
      · split at h
        · obtain ⟨rfl, _⟩ := h; split <;> rfl
        · split at h
          · obtain ⟨rfl, _⟩ := h; split <;> rfl
          · split at h
            · obtain ⟨rfl, _⟩ := h; rfl
            · obtain ⟨rfl, _⟩ := h; split <;> rfl
/-- An act that fails leaves the order. -/
theorem DoR.fail {s : Bst} {tx : Nat → Bz} {a : Ab} {s' : Bst} {tx' : Nat → Bz} (h : DoR s tx a s' tx') (he : doE s tx a ≠ 0) : s'.order = s.order := by
  unfold DoR at h
  unfold doE at he
  split at h
  · rename_i hp
    rw [if_pos hp] at he
    rw [(h.1 he).1]
  · rename_i hp
    rw [if_neg hp] at he
    split at h
    · rename_i h2
      rw [if_pos h2] at he
      rw [h.1, if_neg he]
    · rename_i h2
      rw [if_neg h2] at he
      split at h
      · rename_i h3
        rw [if_pos h3] at he
        rw [h.1, if_neg he]
      · rename_i h3
        rw [if_neg h3] at he
        split at h
        · rw [h.1]; split <;> rfl
        · rename_i h4
          split at h
          · rename_i h7
            rw [if_neg (by omega)] at he
            rw [h.1, if_neg he]
          · rename_i h7
            split at h
            · rw [h.1]
            · rename_i h8
              rw [if_neg h8] at he
              rw [h.1, if_neg he]
theorem DoR.front {s : Bst} {tx : Nat → Bz} {a : Ab} {s' : Bst} {tx' : Nat → Bz} {F : List Nat} (h : DoR s tx a s' tx') (ok : s.Ok) (hF : F <+: s.order) : frN F a.p (doE s tx a) a.id <+: s'.order := by
  have hFn : F.Nodup := ok.onod.sublist hF.sublist
  by_cases he : doE s tx a = 0
  · unfold frN
    unfold DoR at h
    unfold doE at he
    split at h
    · rename_i hp
      rw [if_neg (by omega)]
      rw [if_pos hp] at he
      obtain ⟨g, bp, _, rfl, _⟩ := h.2 he
      exact hF.trans (List.prefix_append _ _)
    · rename_i hp
      rw [if_neg hp] at he
      split at h
      · rename_i h2
        rw [if_pos h2] at he
        obtain ⟨j, hj, _⟩ := known_nat ok (show knownE s.all a.id = 0 by unfold kilE at he; split at he; (rename_i h8; exact absurd he h8); (rename_i h8; omega))
        rw [h.1, if_pos he, if_pos ⟨by unfold doE; rw [if_neg hp, if_pos h2]; exact he, by omega, by omega, by omega, by omega⟩, if_neg (by omega), hj, filter_erase hFn]
        exact prefix_erase hF ok.onod j
      · rename_i h2
        rw [if_neg h2] at he
        split at h
        · rename_i h3
          rw [if_neg (by omega), h.1]
          split
          · exact hF
          · exact hF
        · rename_i h3
          rw [if_neg h3] at he
          split at h
          · rename_i h4
            rw [if_neg (by omega), h.1]
            split
            · exact hF
            · exact hF
          · rename_i h4
            split at h
            · rename_i h7
              rw [if_neg (by omega)] at he
              obtain ⟨j, hj, _⟩ := known_nat ok he
              rw [h.1, if_pos he, if_pos ⟨by unfold doE; rw [if_neg hp, if_neg h2, if_neg h3, if_neg (by omega)]; exact he, by omega, by omega, by omega, by omega⟩, if_neg (by omega), hj, filter_erase hFn]
              exact (prefix_erase hF ok.onod j).trans (List.prefix_append _ _)
            · rename_i h7
              split at h
              · rename_i h8
                rw [if_neg (by omega), h.1]
                exact hF
              · rename_i h8
                rw [if_neg h8] at he
                obtain ⟨j, hj, _⟩ := known_nat ok he
                have hp56 : a.p = 5 ∨ a.p = 6 := by
                  have := a.cases
                  omega
                rw [h.1, if_pos he, if_pos ⟨by unfold doE; rw [if_neg hp, if_neg h2, if_neg h3, if_neg h8]; exact he, by omega, by omega, by omega, by omega⟩, if_pos hp56, hj, filter_erase hFn]
                show j :: F.erase j <+: j :: s.order.erase j
                exact (List.prefix_cons_inj _).2 (prefix_erase hF ok.onod j)
  · unfold frN
    rw [if_neg fun h9 => he h9.1, h.fail he]
    exact hF
end Go.Proofs.YtnbhejbpofjamaaGreatDoor
