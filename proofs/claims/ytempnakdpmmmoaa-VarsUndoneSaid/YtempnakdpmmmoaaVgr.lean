/- Variables: clones of the marks and of the notes; a set's blocks without the bindings' boxes; two sets in one world. No condition but those written. -/
import Derived.Test.YtempnakdpmmmoaaVgq
import Derived.Test.YtempnakdpmmmoaaMr
import Derived.Test.YtempnakdpmmmoaaDraw
namespace Go.Proofs.Ytempnakdpmmmoaa
open Go.RowKit
attribute [local go_sem] neq_cells eql_cells

theorem run_assert_map {P : Program} (w : World) (t xT k e : TypeId) (v : Value) (h : P.underlying t = some (.map k e)) : (Instr.typeAssert (.iface t v) xT t false).run P w = .ok v w := by
  simp [Instr.typeAssert, run_underlying h, go_sem, Result.andThen]
theorem run_clone {P : Program} {r : Nat} {es : Array MapEntry} {clock : Nat} (w : World) (t : TypeId) (hb : w.heap[r]? = some (.map es clock)) :
    (Extern.MapsClone.clone #[.iface t (.map (some r))]).run P w = .ok (.iface t (.map (some w.heap.size))) (w.alloc (.map es clock)) := by
  have e : Extern.MapsClone.clone #[.iface t (.map (some r))] = (getObj r >>= fun o => match o with
      | .map entries clock => (newObj (.map entries clock) >>= fun n => pure (.iface t (.map (some n))))
      | _ => stuck "maps.clone: a map expected") := rfl
  rw [e]
  simp [MapKept.run_getObj_map hb, Result.andThen, go_sem]
theorem eql_mks (w : World) (r : Option Nat) : (binOp .eql 54 (.map r) (.map none)).run Try.prog w = .ok (.bool r.isNone) w := run_eql_map_nil w _ _ _ r Try.underlying54
attribute [local go_sem] eql_mks
set_option maxRecDepth 100000 in
set_option maxHeartbeats 2000000 in
theorem clone_mks (b : Nat) (es : Array MapEntry) (clock : Nat) (w : World) (hb : w.heap[b]? = some (.map es clock)) :
    Calls Try.prog 46 #[.map (some b)] w fun e w' => e = .returned (.map (some w.heap.size)) ∧ w' = w.alloc (.map es clock) := by
  go_enter Try.func46, Try.ntmps46
  go_wp2
  rw [run_callFunc_extern Try.func54 (by kernel_rfl) (by kernel_rfl) (by kernel_rfl) (e := Extern.MapsClone.clone) (by kernel_rfl), run_clone w 54 hb]
  simp only [Result.andThen]
  rw [Oper.upon_value]
  go_wp2
  rw [run_assert_map _ 54 _ _ _ _ Try.underlying54]
  simp only [Result.andThen]
  rw [Oper.upon_value]
  go_wp2
  go_ret
  exact ⟨rfl, rfl⟩
theorem clone_mks_own {W w : World} {L : Heap} {b : Nat} {m : List (Value × Value)} (h : Own W w L) (hb : (b, Ast.map m) ∈ L) :
    Calls Try.prog 46 #[.map (some b)] w fun e w' => ∃ g, e = .returned (.map (some g)) ∧ Own W w' ((g, .map m) :: L) := by
  obtain ⟨es, clock, h1, h2, h3, h4⟩ := (h.mapIs hb).holds
  refine (clone_mks b es clock w h1).mono ?_
  rintro e w' ⟨rfl, rfl⟩
  exact ⟨_, rfl, h.new _ ⟨es, clock, heap_alloc_new w _, h2, h3, h4⟩⟩
theorem eql_nts (w : World) (a : Option Addr) (n c : Nat) : (binOp .eql 55 (.slice a n c) (.slice none 0 0)).run Try.prog w = .ok (.bool a.isNone) w := Lib.run_eql_slice_nil w _ _ a n c 0 0 Try.underlying55
attribute [local go_sem] eql_nts
def FreshN (w : World) (l : List Nte) (e : Ending) (w' : World) : Prop := ∃ v, e = .returned v ∧ Sl w' 64 6 v l.length (rows Nte.cells l) ∧ (∀ g, v.ownBlock = some g → w.heap.size ≤ g) ∧ Below w.heap.size w w'
set_option maxRecDepth 100000 in
set_option maxHeartbeats 2000000 in
theorem clone_nts_some (a : Addr) (c n : Nat) (xs : List Value) (w : World) (h : Rd w (.slice (some a) n c) 6 n xs) (h1 : ∀ u ∈ xs, u.oneCell' = true) (hN : n ≤ 2000) :
    Calls Try.prog 47 #[.slice (some a) n c] w fun e w' => ∃ v, e = .returned v ∧ Sl w' 64 6 v n xs ∧ (∀ g, v.ownBlock = some g → w.heap.size ≤ g) ∧ Below w.heap.size w w' := by
  obtain ⟨i0, hi, hz0, hz1, hz2⟩ := info_parts info_note
  have he := Sl.new w 64 6 #[] 0 0 (Nat.le_refl _) (by simp [maxLen]) (by simp)
  have he2 : Sl (w.alloc (.cells #[] 64)) 64 6 (.slice (some ⟨w.heap.size, 0, none⟩) 0 0) 0 [] := by simpa using he
  have hB : Below w.heap.size w (w.alloc (.cells #[] 64)) := (Below.refl _ _).alloc (Nat.le_refl _) _
  have hr : Rd (w.alloc (.cells #[] 64)) (.slice (some a) n c) 6 n xs := h.only (Only.of_below hB) fun _ _ f => f
  go_enter Try.func47, Try.ntmps47
  go_wp2_with (at_builtin; go_loud (refine wpList_append_sl rfl (.tmp 5) (.tmp 6) 55 rfl 64 i0 _ 6 48 Try.underlying55 hi hz0 hz1 hz2 rfl _ 0 [] rfl he2 _ rfl n xs hr h1 ?b1 ?b2 ?_))
  case b1 => unfold maxLen; omega
  case b2 => omega
  intro v' w' hsl honly hv'
  have HB := hide (hB.trans (honly.below (B := w.heap.size) (by simp) fun i hi => by simp [Value.ownBlock] at hi; omega))
  have HS := hide (show Sl w' 64 6 v' n xs by simpa using hsl)
  have HG := hide (show ∀ g, v'.ownBlock = some g → w.heap.size ≤ g from fun g hg => by
    rcases hv' with e | e <;> rw [e] at hg <;> simp [Value.ownBlock] at hg <;> omega)
  clear hsl honly hv' hB he h
  go_wp2
  go_ret
  exact ⟨_, rfl, HS.out, HG.out, HB.out⟩
set_option maxRecDepth 100000 in
set_option maxHeartbeats 2000000 in
theorem clone_nts_none (c : Nat) (w : World) : Calls Try.prog 47 #[.slice none 0 c] w (FreshN w []) := by
  have HF := hide (show FreshN w [] (.returned (.slice none 0 0)) w from ⟨_, rfl, Sl.nil _ _ _, fun g hg => by simp [Value.ownBlock] at hg, Below.refl _ _⟩)
  go_enter Try.func47, Try.ntmps47
  go_wp2
  go_ret
  exact HF.out
theorem clone_nts {v : Value} {l : List Nte} {w : World} (h : Sl w 64 6 v l.length (rows Nte.cells l)) (hN : l.length ≤ 2000) :
    Calls Try.prog 47 #[v] w (FreshN w l) := by
  obtain ⟨A, c, rfl, hl, hr⟩ := id h.rd
  cases A with
  | some a => exact clone_nts_some a c l.length _ w h.rd (rows_cells fun x _ => nte_one x) hN
  | none =>
    have : l.length = 0 := by
      rcases Nat.eq_zero_or_pos l.length with h0 | h0
      · exact h0
      · obtain ⟨b, off, hA, _⟩ := hr h0
        cases hA
    have := List.eq_nil_of_length_eq_zero this
    subst this
    exact clone_nts_none c w
theorem clone_nts_own {W w : World} {L : Heap} {v : Value} {l : List Nte} (h : Own W w L) (hs : ∀ x, x ∈ rowOf 64 6 v l.length (rows Nte.cells l) → x ∈ L) (ok : RowOk v l.length) (hN : l.length ≤ 2000) :
    Calls Try.prog 47 #[v] w fun e w' => ∃ A c, e = .returned (.slice A l.length c) ∧ RowOk (.slice A l.length c) l.length ∧ Own W w' (rowOf 64 6 (.slice A l.length c) l.length (rows Nte.cells l) ++ L) := by
  have hsl := h.slOf hs (rows_len nte_len l) ok
  refine (clone_nts hsl hN).mono ?_
  rintro e w' ⟨u, rfl, h1, h2, h3⟩
  have h4 := h.joinRow h3 h1 h2
  have h5 := h1.rowOk
  obtain ⟨A, c, rfl, _⟩ := h1.form
  exact ⟨A, c, rfl, h5, h4⟩

/-! ### A set's blocks but the bindings' boxes -/
def vrest (b : Vb) (s : Vst) : Heap := b.head s ++ (entHeap s.defs ++ (locHeap s.locs ++ noteRow b s))
def VH (vb : Nat) (v : Vw) (H : Heap) : Prop := ∃ b s, b.vb = vb ∧ H = vrest b s ∧ s.Ok ∧ s.view = v ∧ RowOk b.nv s.notes.length
theorem vrest_perm (b : Vb) (s : Vst) (R : Heap) : (s.heap b ++ R).Perm (vrest b s ++ (noteHeap s.notes ++ R)) := by
  unfold Vst.heap vrest
  classical
  rw [List.perm_iff_count]
  intro x
  simp only [List.count_append]
  omega
section
variable {W w w' : World} {vb : Nat} {v : Vw} {R H : Heap}
theorem VZ.split (h : VZ W w vb v R) : ∃ H, VH vb v H ∧ Own W w (H ++ (noteHeap v.B ++ R)) := by
  obtain ⟨b, s, rfl, hV, ok, rfl⟩ := h.at_
  exact ⟨_, ⟨b, s, rfl, rfl, ok, rfl, hV.sl.rowOk⟩, hV.own.perm (vrest_perm b s R)⟩
theorem VH.vz (h : VH vb v H) (ho : Own W w (H ++ (noteHeap v.B ++ R))) : VZ W w vb v R := by
  obtain ⟨b, s, rfl, rfl, ok, rfl, hr⟩ := h
  have ho2 := ho.perm (vrest_perm b s R).symm
  refine ⟨b, s, rfl, ⟨ho2, ?_⟩, ok, rfl⟩
  exact ho2.slOf (fun x hx => List.mem_append_left _ (List.mem_append_right _ (List.mem_append_right _ (List.mem_append_right _ (List.mem_append_right _ hx))))) (rows_len nte_len _) hr
/-- Two sets in one world, the second with the first one's boxes: the other comes ahead. -/
theorem VZ.flip {ob : Nat} {u : Vw} {Hc R0 : Heap} {N : List Nte} (h : VZ W w vb v (Hc ++ R0)) (hc : VH ob u Hc) (hB : v.B = u.B ++ N) : ∃ H, VH vb v H ∧ VZ W w ob u (H ++ (noteHeap N ++ R0)) := by
  obtain ⟨H, h1, h2⟩ := h.split
  refine ⟨H, h1, hc.vz (h2.perm ?_)⟩
  rw [hB, show noteHeap (u.B ++ N) = noteHeap u.B ++ noteHeap N by simp [noteHeap]]
  classical
  rw [List.perm_iff_count]
  intro x
  simp only [List.count_append]
  omega
theorem VZ.flop {ob : Nat} {u : Vw} {R0 : Heap} {N : List Nte} (hc : VZ W w ob u (H ++ (noteHeap N ++ R0))) (h : VH vb v H) (hB : v.B = u.B ++ N) : ∃ Hc, VH ob u Hc ∧ VZ W w vb v (Hc ++ R0) := by
  obtain ⟨Hc, h1, h2⟩ := hc.split
  refine ⟨Hc, h1, h.vz (h2.perm ?_)⟩
  rw [hB, show noteHeap (u.B ++ N) = noteHeap u.B ++ noteHeap N by simp [noteHeap]]
  classical
  rw [List.perm_iff_count]
  intro x
  simp only [List.count_append]
  omega
end
end Go.Proofs.Ytempnakdpmmmoaa
