/- The reference: its state; New, place, named, within. No condition but those written. -/
import Derived.Test.YtmjogpacajbngaaGd
namespace Go.Proofs.Ytmjogpacajbngaa
open Go.RowKit

/-- The reference's faces: the names and the attributes lie in two slices. -/
structure RfAt (W w : World) (rb : Nat) (vN : Value) (ns : List ByteArray) (vA : Value) (av : List Att) (R : Heap) : Prop where
  own : Own W w ((rb, .cells 43 #[vN, vA]) :: (rowOf 9 1 vN ns.length (strs ns) ++ (rowOf 23 6 vA av.length (rows Att.cells av) ++ R)))
  okN : RowOk vN ns.length
  okA : RowOk vA av.length
section
variable {W w w' : World} {rb : Nat} {vN vA : Value} {ns : List ByteArray} {av : List Att} {R : Heap}
theorem RfAt.below (h : RfAt W w rb vN ns vA av R) (hb : Below w.heap.size w w') : RfAt W w' rb vN ns vA av R := ⟨h.own.below hb, h.okN, h.okA⟩
theorem RfAt.blk (h : RfAt W w rb vN ns vA av R) : Blk w rb 43 #[vN, vA] := h.own.blk (List.mem_cons_self ..)
theorem RfAt.slN (h : RfAt W w rb vN ns vA av R) : Sl w 9 1 vN ns.length (strs ns) := Own.slOf h.own (fun x hx => List.mem_cons_of_mem _ (List.mem_append_left _ hx)) (by simp [strs]) h.okN
theorem RfAt.slA (h : RfAt W w rb vN ns vA av R) : Sl w 23 6 vA av.length (rows Att.cells av) := Own.slOf h.own (fun x hx => List.mem_cons_of_mem _ (List.mem_append_right _ (List.mem_append_left _ hx))) (by rw [rows_len att_len]) h.okA
theorem RfAt.rest (h : RfAt W w rb vN ns vA av R) : Own W w R := h.own.sub (((List.sublist_append_right _ _).trans (List.sublist_append_right _ _)).cons _)
theorem RfAt.bel (h : RfAt W w rb vN ns vA av R) : Below W.heap.size W w := h.own.bel
/-- The names are laid anew. -/
theorem RfAt.setN {v : Value} {ns' : List ByteArray} (h : RfAt W w rb vN ns vA av R) (hb : Below w.heap.size w w') (hs : Sl w' 9 1 v ns'.length (strs ns')) (hf : ∀ g, v.ownBlock = some g → w.heap.size ≤ g) : RfAt W (w'.setCell ⟨rb, 0, none⟩ v) rb v ns' vA av R := by
  have h1 := h.own.joinRow hb hs hf
  have h2 := (h1.perm (List.perm_middle (a := (rb, Ast.cells 43 #[vN, vA])))).setCell 0 v
  refine ⟨h2.sub ?_, hs.rowOk, h.okA⟩
  exact ((List.Sublist.refl _).append (List.sublist_append_right _ _)).cons_cons _
/-- The attributes are laid anew. -/
theorem RfAt.setA {v : Value} {av' : List Att} (h : RfAt W w rb vN ns vA av R) (hb : Below w.heap.size w w') (hs : Sl w' 23 6 v av'.length (rows Att.cells av')) (hf : ∀ g, v.ownBlock = some g → w.heap.size ≤ g) : RfAt W (w'.setCell ⟨rb, 1, none⟩ v) rb vN ns v av' R := by
  have h1 := h.own.joinRow hb hs hf
  have h2 := (h1.perm (List.perm_middle (a := (rb, Ast.cells 43 #[vN, vA])))).setCell 1 v
  have h3 := h2.perm (R := (rb, Ast.cells 43 #[vN, v]) :: (rowOf 9 1 vN ns.length (strs ns) ++ (rowOf 23 6 v av'.length (rows Att.cells av') ++ (rowOf 23 6 vA av.length (rows Att.cells av) ++ R)))) (by
    refine List.Perm.cons _ ?_
    rw [← List.append_assoc, ← List.append_assoc (rowOf 9 1 vN ns.length (strs ns))]
    exact List.perm_append_comm.append_right _)
  exact ⟨h3.sub (((List.Sublist.refl _).append ((List.Sublist.refl _).append (List.sublist_append_right _ _))).cons_cons _), h.okN, hs.rowOk⟩
end
/-- Where a name stands. -/
def plc (ns : List ByteArray) (s : ByteArray) : Option Nat := ns.findIdx? fun y => y == s
def plcZ (ns : List ByteArray) (s : ByteArray) : Int := match plc ns s with
  | some i => (i : Int)
  | none => -1
theorem plc_some {ns : List ByteArray} {s : ByteArray} {k : Nat} (h : ns[k]? = some s) (hn : ∀ i, i < k → ∀ y : ByteArray, ns[i]? = some y → (y == s) = false) : plc ns s = some k := by
  unfold plc
  rw [List.findIdx?_eq_some_iff_getElem]
  obtain ⟨hk, e⟩ := List.getElem?_eq_some_iff.1 h
  refine ⟨hk, by rw [e]; exact beq_ba s, fun j hj => ?_⟩
  have := hn j hj _ (List.getElem?_eq_getElem (by omega))
  simpa using this
theorem plc_none {ns : List ByteArray} {s : ByteArray} (hn : ∀ (i : Nat) (y : ByteArray), ns[i]? = some y → (y == s) = false) : plc ns s = none := by
  unfold plc
  rw [List.findIdx?_eq_none_iff]
  intro x hx
  obtain ⟨i, hi⟩ := List.getElem?_of_mem hx
  simpa using hn i x hi
set_option maxRecDepth 100000 in
set_option maxHeartbeats 4000000 in
theorem place_any {w : World} {rb n c : Nat} {A : Option Addr} {vA : Value} {ns : List ByteArray} (hb : Blk w rb 43 #[.slice A n c, vA]) (hr : Rd w (.slice A n c) 1 n (strs ns)) (s : ByteArray) (hm : n < 9223372036854775807) : Calls Try.prog 43 #[.pointer (some ⟨rb, 0, none⟩), .string s] w fun e w' => e = .returned (.int .i64 (plcZ ns s)) ∧ w = w' := by
  have hlen : ns.length = n := by
    obtain ⟨_, _, _, h, _⟩ := hr
    simpa [strs] using h
  have c0 : w.cell? ⟨rb, 0, none⟩ = some (.slice A n c) := by rw [hb.cell]; rfl
  have HL := hide hlen
  have HR := hide hr
  clear hb hr hlen
  go_enter Try.func43, Try.ntmps43
  go_wp2
  go_loop [5] (fun t => ∃ k : Nat, t = .int .i64 (k : Int) ∧ k ≤ n ∧ ∀ i, i < k → ∀ y, ns[i]? = some y → (y == s) = false) (fun t => n - (intOf t).toNat)
  case atStart => exact ⟨0, rfl, Nat.zero_le _, fun i hi => by omega⟩
  case round =>
    obtain ⟨k, rfl, hk, hall⟩ := hrel
    have HA := hide hall
    clear hall
    by_cases hlt : k < n
    · have y1 : decide (k < n) = true := by simpa using hlt
      have y2 : decide ((k : Int) < (n : Int)) = true := by simp; omega
      obtain ⟨x, hx⟩ : ∃ x, ns[k]? = some x := ⟨_, List.getElem?_eq_getElem (by rw [HL.out]; exact hlt)⟩
      obtain ⟨g, off, rfl, hcell⟩ := rd_str HR.out hx
      have HLT := hide hlt
      cases he : x == s with
      | true =>
        have z3 : (x.toList == s.toList) = true := by rw [toList_beq]; exact he
        have HP := hide (show plcZ ns s = (k : Int) by
          unfold plcZ
          rw [plc_some (by rw [hx, (MapKept.bytes_beq _ _).1 he]) HA.out])
        clear he hx
        go_wp2
        go_ret
        exact ⟨by rw [HP.out]; rfl, rfl⟩
      | false =>
        have z3 : (x.toList == s.toList) = false := by rw [toList_beq]; exact he
        have HN := hide (show ∀ i, i < k + 1 → ∀ y, ns[i]? = some y → (y == s) = false from fun i hi y hy => by
          by_cases e : i = k
          · rw [e, hx, Option.some.injEq] at hy
            rw [← hy]
            exact he
          · exact HA.out i (by omega) y hy)
        clear he hx
        go_wp2
        go_round
        case rel => exact ⟨k + 1, by go_num, HLT.out, HN.out⟩
        case measure => have := HLT.out; simp [intOf]; omega
    · have y1 : decide (k < n) = false := by simpa using hlt
      have y2 : decide ((k : Int) < (n : Int)) = false := by simp; omega
      have HP := hide (show plcZ ns s = -1 by
        unfold plcZ
        rw [plc_none fun i y hy => HA.out i (by have := (List.getElem?_eq_some_iff.1 hy).1; rw [HL.out] at this; omega) y hy])
      go_wp2
      go_ret
      exact ⟨by rw [HP.out]; rfl, rfl⟩
end Go.Proofs.Ytmjogpacajbngaa
