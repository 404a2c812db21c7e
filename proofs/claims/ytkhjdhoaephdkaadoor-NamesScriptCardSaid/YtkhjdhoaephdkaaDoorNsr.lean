/- The table's methods at any argument. No condition but those written. -/
import Derived.Test.YtkhjdhoaephdkaaDoorNsb
import Derived.Test.YtkhjdhoaephdkaaDoorNamCells0
import Derived.Test.YtkhjdhoaephdkaaDoorNamSet
namespace Go.Proofs.YtkhjdhoaephdkaaDoor
open Go.RowKit

section
variable {tb : Nat} {L : List Sym} {F : Nat → Prop} {w : World}
theorem rget_out {α : Type} {l : List α} {n : Int} (h : rget l n = none) : ¬ (0 ≤ n ∧ n < (l.length : Int)) := of_decide_eq_false (rget_none h)
theorem name_all (h : TableIs w tb L F) (n : Int) : Calls Tryd.prog 18 #[.pointer (some ⟨tb, 0, none⟩), .int .i64 n] w fun e w' => e = .returned (.tuple #[.string (((rget L n).map Sym.name).getD ⟨#[]⟩), .bool (rget L n).isSome]) ∧ w = w' := by
  cases hx : rget L n with
  | none => exact name_none h n (rget_out hx)
  | some x =>
    obtain ⟨i, rfl, hi, _⟩ := rget_some hx
    exact name_any h i x hi
theorem interned_all (h : TableIs w tb L F) (n : Int) : Calls Tryd.prog 17 #[.pointer (some ⟨tb, 0, none⟩), .int .i64 n] w fun e w' => e = .returned (.bool (((rget L n).map Sym.intd).getD false)) ∧ w = w' := by
  cases hx : rget L n with
  | none => exact interned_none h n (rget_out hx)
  | some x =>
    obtain ⟨i, rfl, hi, _⟩ := rget_some hx
    exact interned_any h i x hi
set_option maxRecDepth 100000 in
set_option maxHeartbeats 2000000 in
theorem func_none (h : TableIs w tb L F) (n : Int) (hn : decide (0 ≤ n ∧ n < (L.length : Int)) = false) : Calls Tryd.prog 27 #[.pointer (some ⟨tb, 0, none⟩), .int .i64 n] w
    fun e w' => e = .returned (.tuple #[.agg #[.int .i64 0, .int .i64 0], .bool false]) ∧ Below w.heap.size w w' := by
  have hB : Below w.heap.size w (w.alloc (.cells #[.int .i64 0, .int .i64 0] 44)) := (Below.refl _ _).alloc (Nat.le_refl _) _
  have hbk : Blk (w.alloc (.cells #[.int .i64 0, .int .i64 0] 44)) w.heap.size 44 #[.int .i64 0, .int .i64 0] := heap_alloc_new w _
  have hA := h.below hB
  go_enter Tryd.func27, Tryd.ntmps27
  go_wp2_with fail
  generalize w.alloc (.cells #[.int .i64 0, .int .i64 0] 44) = w1 at *
  have HH := hide (has_any hA n)
  rw [hn] at HH
  have k0 : w1.cell? ⟨w.heap.size, 0, none⟩ = some (.int .i64 0) := by rw [hbk.cell]; rfl
  have k1 : w1.cell? ⟨w.heap.size, 1, none⟩ = some (.int .i64 0) := by rw [hbk.cell]; rfl
  have f0 := hbk.frozen 0
  have f1 := hbk.frozen 1
  have HK := hide hbk
  have HK2 := hide ((hbk.set_ 0 (.int .i64 0)).set_ 1 (.int .i64 0))
  have HB := hide hB
  have HB2 := hide ((hB.setCell (p := ⟨w.heap.size, 0, none⟩) (Nat.le_refl _) (.int .i64 0)).setCell (p := ⟨w.heap.size, 1, none⟩) (Nat.le_refl _) (.int .i64 0))
  clear hbk hA h hB hn
  refine (Calls.mono HH.out) ?_
  rintro e w2 ⟨rfl, rfl⟩
  go_wp2
  refine bodyPost_ret (v := .tuple #[.agg #[.int .i64 0, .int .i64 0], .bool false]) ?_ rfl ?_
  · rw [results_cell_tmp rfl]
    show ((loadVar 44 ⟨w.heap.size, 0, none⟩).run Tryd.prog _).andThen _ = _
    first
      | (rw [run_loadVar_row _ w.heap.size 44 44 #[.int .i64 0, .int .i64 0] (0, 0) _ HK.out Tryd.underlying44 rfl (by kernel_rfl)]; rfl)
      | (rw [run_loadVar_row _ w.heap.size 44 44 #[.int .i64 0, .int .i64 0] (0, 0) _ HK2.out Tryd.underlying44 rfl (by kernel_rfl)]; rfl)
  · first
      | exact ⟨rfl, HB.out⟩
      | exact ⟨rfl, HB2.out⟩
theorem func_all (h : TableIs w tb L F) (hz : ∀ x ∈ L, x.fb = false → x.fk = 0 ∧ x.fn = 0) (n : Int) : Calls Tryd.prog 27 #[.pointer (some ⟨tb, 0, none⟩), .int .i64 n] w
    fun e w' => e = .returned (funcR ((rget L n).map fun x => (x.fb, x.fk, x.fn))) ∧ Below w.heap.size w w' := by
  cases hx : rget L n with
  | none => exact func_none h n (rget_none hx)
  | some x =>
    obtain ⟨i, rfl, hi, _⟩ := rget_some hx
    refine (func_any h i x hi).mono ?_
    rintro e w' ⟨rfl, hb⟩
    refine ⟨?_, hb⟩
    cases hf : x.fb with
    | true => simp [funcR, hf]
    | false =>
      obtain ⟨e1, e2⟩ := hz x (List.mem_of_getElem? hi) hf
      simp [funcR, hf, e1, e2]
set_option maxRecDepth 100000 in
set_option maxHeartbeats 2000000 in
theorem prop_none (h : TableIs w tb L F) (n key : Int) (hn : decide (0 ≤ n ∧ n < (L.length : Int)) = false) : Calls Tryd.prog 28 #[.pointer (some ⟨tb, 0, none⟩), .int .i64 n, .int .i64 key] w
    fun e w' => e = .returned (.tuple #[.agg #[.int .i64 0, .int .i64 0], .bool false]) ∧ Below w.heap.size w w' := by
  have hB : Below w.heap.size w (w.alloc (.cells #[.int .i64 0, .int .i64 0] 44)) := (Below.refl _ _).alloc (Nat.le_refl _) _
  have hbk : Blk (w.alloc (.cells #[.int .i64 0, .int .i64 0] 44)) w.heap.size 44 #[.int .i64 0, .int .i64 0] := heap_alloc_new w _
  have hA := h.below hB
  go_enter Tryd.func28, Tryd.ntmps28
  go_wp2_with fail
  generalize w.alloc (.cells #[.int .i64 0, .int .i64 0] 44) = w1 at *
  have HH := hide (has_any hA n)
  rw [hn] at HH
  have k0 : w1.cell? ⟨w.heap.size, 0, none⟩ = some (.int .i64 0) := by rw [hbk.cell]; rfl
  have k1 : w1.cell? ⟨w.heap.size, 1, none⟩ = some (.int .i64 0) := by rw [hbk.cell]; rfl
  have f0 := hbk.frozen 0
  have f1 := hbk.frozen 1
  have HK := hide hbk
  have HK2 := hide ((hbk.set_ 0 (.int .i64 0)).set_ 1 (.int .i64 0))
  have HB := hide hB
  have HB2 := hide ((hB.setCell (p := ⟨w.heap.size, 0, none⟩) (Nat.le_refl _) (.int .i64 0)).setCell (p := ⟨w.heap.size, 1, none⟩) (Nat.le_refl _) (.int .i64 0))
  clear hbk hA h hB hn
  refine (Calls.mono HH.out) ?_
  rintro e w2 ⟨rfl, rfl⟩
  go_wp2
  refine bodyPost_ret (v := .tuple #[.agg #[.int .i64 0, .int .i64 0], .bool false]) ?_ rfl ?_
  · rw [results_cell_tmp rfl]
    show ((loadVar 44 ⟨w.heap.size, 0, none⟩).run Tryd.prog _).andThen _ = _
    first
      | (rw [run_loadVar_row _ w.heap.size 44 44 #[.int .i64 0, .int .i64 0] (0, 0) _ HK.out Tryd.underlying44 rfl (by kernel_rfl)]; rfl)
      | (rw [run_loadVar_row _ w.heap.size 44 44 #[.int .i64 0, .int .i64 0] (0, 0) _ HK2.out Tryd.underlying44 rfl (by kernel_rfl)]; rfl)
  · first
      | exact ⟨rfl, HB.out⟩
      | exact ⟨rfl, HB2.out⟩
set_option maxRecDepth 100000 in
set_option maxHeartbeats 2000000 in
theorem prop_nomap (h : TableIs w tb L F) (n : Nat) (x : Sym) (hn : L[n]? = some x) (hpm : x.pm = none) (key : Int) : Calls Tryd.prog 28 #[.pointer (some ⟨tb, 0, none⟩), .int .i64 (n : Int), .int .i64 key] w
    fun e w' => e = .returned (.tuple #[.agg #[.int .i64 0, .int .i64 0], .bool false]) ∧ Below w.heap.size w w' := by
  have hB : Below w.heap.size w (w.alloc (.cells #[.int .i64 0, .int .i64 0] 44)) := (Below.refl _ _).alloc (Nat.le_refl _) _
  have hbk : Blk (w.alloc (.cells #[.int .i64 0, .int .i64 0] 44)) w.heap.size 44 #[.int .i64 0, .int .i64 0] := heap_alloc_new w _
  have hlt : n < L.length := (List.getElem?_eq_some_iff.1 hn).1
  have hA := h.below hB
  go_enter Tryd.func28, Tryd.ntmps28
  go_wp2_with fail
  generalize w.alloc (.cells #[.int .i64 0, .int .i64 0] 44) = w1 at *
  have HH := hide (has_any hA n)
  rw [show decide (0 ≤ (n : Int) ∧ (n : Int) < (L.length : Int)) = true by simp; omega] at HH
  obtain ⟨vs, ib, a1, a2, a3, a4, a5, a6⟩ := hA.holds
  obtain ⟨g, off, c, rfl, _, _, hg, hfz, hcell⟩ := a2.fld sym_len (by omega)
  have c0 : w1.cell? ⟨tb, 0, none⟩ = some (.slice (some ⟨g, off, none⟩) L.length c) := by rw [a1.cell]; rfl
  have q5 : w1.cell? ⟨g, off + n * 6 + 5, none⟩ = some (.map none) := by
    have q := hcell n x 5 _ hn rfl
    rw [hpm] at q
    exact q
  have hbk2 : Blk (w1.alloc (.cells #[.int .i64 0, .int .i64 0] 44)) w.heap.size 44 #[.int .i64 0, .int .i64 0] := hbk.alloc _
  have k0 : (w1.alloc (.cells #[.int .i64 0, .int .i64 0] 44)).cell? ⟨w.heap.size, 0, none⟩ = some (.int .i64 0) := by rw [hbk2.cell]; rfl
  have k1 : (w1.alloc (.cells #[.int .i64 0, .int .i64 0] 44)).cell? ⟨w.heap.size, 1, none⟩ = some (.int .i64 0) := by rw [hbk2.cell]; rfl
  have f0 : (w1.alloc (.cells #[.int .i64 0, .int .i64 0] 44)).frozen? ⟨w.heap.size, 0, none⟩ = false := hbk2.frozen 0
  have f1 : (w1.alloc (.cells #[.int .i64 0, .int .i64 0] 44)).frozen? ⟨w.heap.size, 1, none⟩ = false := hbk2.frozen 1
  have HK := hide ((hbk2.set_ 0 (.int .i64 0)).set_ 1 (.int .i64 0))
  have HB := hide (((hB.alloc hB.size (.cells #[.int .i64 0, .int .i64 0] 44)).setCell (p := ⟨w.heap.size, 0, none⟩) (Nat.le_refl _) (.int .i64 0)).setCell (p := ⟨w.heap.size, 1, none⟩) (Nat.le_refl _) (.int .i64 0))
  clear hcell hfz hbk hbk2 hB a1 a2 a3 hA h
  refine (Calls.mono HH.out) ?_
  rintro e w2 ⟨rfl, rfl⟩
  go_wp2_with (at_lookup; go_loud (refine wpList_lookup_nilmap rfl _ _ true rfl Tryd.underlying82 Tryd.underlying3 _ (zero_word _) rfl (.int .i64 key) rfl (.int _ _) ?_))
  refine bodyPost_ret (v := .tuple #[.agg #[.int .i64 0, .int .i64 0], .bool false]) ?_ rfl ?_
  · rw [results_cell_tmp rfl]
    show ((loadVar 44 ⟨w.heap.size, 0, none⟩).run Tryd.prog _).andThen _ = _
    rw [run_loadVar_row _ w.heap.size 44 44 #[.int .i64 0, .int .i64 0] (0, 0) _ HK.out Tryd.underlying44 rfl (by kernel_rfl)]
    rfl
  · exact ⟨rfl, HB.out⟩
theorem prop_all (h : TableIs w tb L F) (n key : Int) : Calls Tryd.prog 28 #[.pointer (some ⟨tb, 0, none⟩), .int .i64 n, .int .i64 key] w
    fun e w' => e = .returned (propR (pgAt ((rget L n).map Sym.props) key)) ∧ Below w.heap.size w w' := by
  cases hx : rget L n with
  | none => exact prop_none h n key (rget_none hx)
  | some x =>
    obtain ⟨i, rfl, hi, _⟩ := rget_some hx
    rcases h.props x (List.mem_of_getElem? hi) with ⟨e1, e2⟩ | ⟨b, hb, _, _⟩
    · show Calls _ _ _ _ fun e w' => e = .returned (propR (pget x.props key)) ∧ _
      rw [e2]
      exact prop_nomap h i x hi e1 key
    · show Calls _ _ _ _ fun e w' => e = .returned (propR (pget x.props key)) ∧ _
      cases hg : pget x.props key with
      | none => exact prop_absent h i x hi b hb key hg
      | some v =>
        obtain ⟨p, q⟩ := v
        exact prop_some h i x hi b hb key p q hg
set_option maxRecDepth 100000 in
set_option maxHeartbeats 4000000 in
theorem props_none (h : TableIs w tb L F) (n : Int) (hn : decide (0 ≤ n ∧ n < (L.length : Int)) = false) : Calls Tryd.prog 31 #[.pointer (some ⟨tb, 0, none⟩), .int .i64 n] w (PrRes w []) := by
  have HH := hide (has_any h n)
  rw [hn] at HH
  clear h hn
  go_enter Tryd.func31, Tryd.ntmps31
  go_wp2_with fail
  refine (Calls.mono HH.out) ?_
  rintro e w2 ⟨rfl, rfl⟩
  go_wp2
  go_ret
  exact ⟨_, rfl, Sl.nil _ _ _, Below.refl _ _⟩
set_option maxRecDepth 100000 in
set_option maxHeartbeats 4000000 in
theorem props_nomap (h : TableIs w tb L F) (n : Nat) (x : Sym) (hn : L[n]? = some x) (hpm : x.pm = none) : Calls Tryd.prog 31 #[.pointer (some ⟨tb, 0, none⟩), .int .i64 (n : Int)] w (PrRes w []) := by
  have hlt : n < L.length := (List.getElem?_eq_some_iff.1 hn).1
  have HH := hide (has_any h n)
  rw [show decide (0 ≤ (n : Int) ∧ (n : Int) < (L.length : Int)) = true by simp; omega] at HH
  obtain ⟨vs, ib, a1, a2, a3, a4, a5, a6⟩ := h.holds
  obtain ⟨g, off, c, rfl, _, _, hg, hfz, hcell⟩ := a2.fld sym_len (by omega)
  have c0 : w.cell? ⟨tb, 0, none⟩ = some (.slice (some ⟨g, off, none⟩) L.length c) := by rw [a1.cell]; rfl
  have q5 : w.cell? ⟨g, off + n * 6 + 5, none⟩ = some (.map none) := by
    have q := hcell n x 5 _ hn rfl
    rw [hpm] at q
    exact q
  clear h hn hpm a1 a2 a3 a4 a5 a6 hfz hcell
  go_enter Tryd.func31, Tryd.ntmps31
  go_wp2_with fail
  refine (Calls.mono HH.out) ?_
  rintro e w2 ⟨rfl, rfl⟩
  go_wp2_with fail
  refine (keys_fn none w).mono ?_
  rintro e w2 ⟨rfl, rfl⟩
  go_wp2_with fail
  refine (sorted_nil w).mono ?_
  rintro e w2 ⟨rfl, hb⟩
  have HB := hide hb
  clear hb
  go_wp2
  go_loopw [5, 23] (fun u i wr => u = .slice none 0 0 ∧ i = .int .i64 0 ∧ wr = w2) (fun _ i _ => 0)
  case atStart => exact ⟨rfl, rfl, rfl⟩
  case round =>
    obtain ⟨rfl, rfl, rfl⟩ := hrel
    go_wp2
    go_ret
    exact ⟨_, rfl, Sl.nil _ _ _, HB.out⟩
/-- What holds of the symbols at every time. -/
structure SymOk (x : Sym) : Prop where
  nd : (x.props.map (·.1)).Nodup
  key : ∀ y ∈ x.props, 0 ≤ y.1 ∧ y.1 < 16384
  len : x.props.length ≤ 16384
  fn : x.fb = false → x.fk = 0 ∧ x.fn = 0
theorem props_all (h : TableIs w tb L F) (hok : ∀ x ∈ L, SymOk x) (n : Int) : Calls Tryd.prog 31 #[.pointer (some ⟨tb, 0, none⟩), .int .i64 n] w (PrRes w (((rget L n).map fun x => sortP x.props).getD [])) := by
  cases hx : rget L n with
  | none => exact props_none h n (rget_none hx)
  | some x =>
    obtain ⟨i, rfl, hi, _⟩ := rget_some hx
    have ho := hok x (List.mem_of_getElem? hi)
    rcases h.props x (List.mem_of_getElem? hi) with ⟨e1, e2⟩ | ⟨b, hb, _, _⟩
    · show Calls _ _ _ _ (PrRes w (sortP x.props))
      rw [e2, show sortP [] = [] by simp [sortP]]
      exact props_nomap h i x hi e1
    · show Calls _ _ _ _ (PrRes w (sortP x.props))
      refine (props_some h i x hi b hb ho.nd (fun y hy => by have := ho.key y hy; simp [Lit.wf, IntKind.min, IntKind.max, IntKind.signed, IntKind.bits]; omega) (by have := ho.len; omega)).mono ?_
      rintro e w' ⟨v, rfl, h1, _, h2⟩
      exact ⟨v, rfl, by rw [sortP_len]; exact h1, h2⟩
theorem set_zero (h : TableIs w tb L F) (k m : Int) (b : Bool) (hn : 1 < L.length) : Calls Tryd.prog 42 #[.pointer (some ⟨tb, 0, none⟩), .int .i64 0, .agg #[.int .i64 k, .int .i64 m, .bool b]] w fun e w' => e = .returned (.int .i64 10) ∧ Below w.heap.size w w' := by
  have hB : Below w.heap.size w (w.alloc (.cells #[.int .i64 k, .int .i64 m, .bool b] 81)) := (Below.refl _ _).alloc (Nat.le_refl _) _
  have h2 := h.below hB
  have HM := hide (made_any h2)
  have HH := hide (has_any h2 0)
  rw [show decide (0 ≤ (0 : Int) ∧ (0 : Int) < (L.length : Int)) = true by simp; omega] at HH
  clear h h2 hn
  go_enter Tryd.func42, Tryd.ntmps42
  go_wp2_with (first | (go_at_call 40; refine (Calls.mono HM.out) ?_; rintro e w' ⟨rfl, rfl⟩) | (go_at_call 41; refine (Calls.mono HH.out) ?_; rintro e w' ⟨rfl, rfl⟩))
  go_ret
  exact ⟨rfl, hB⟩
/-- What set leaves. -/
def setA (L : List Sym) (n : Int) (k m : Int) (b : Bool) : List Sym := if mayR L.length n = 0 then (match L[n.toNat]? with | some x => L.set n.toNat (withFn x k m b) | none => L) else L
theorem Left.same {w' : World} (h : TableIs w tb L F) (hb : Below w.heap.size w w') : Left w tb L F w' := by
  refine ⟨(h.below hb).mono (fun k hk => .inl hk) fun k hk => ?_, Only.of_below hb⟩
  rcases hk with hk | hk
  · exact Nat.lt_of_lt_of_le (h.bound k hk) hb.size
  · exact hk.2
theorem set_all (h : TableIs w tb L F) (hL : 1 < L.length) (n k m : Int) (b : Bool) : Calls Tryd.prog 42 #[.pointer (some ⟨tb, 0, none⟩), .int .i64 n, .agg #[.int .i64 k, .int .i64 m, .bool b]] w fun e w' => e = .returned (.int .i64 (mayR L.length n)) ∧ Left w tb (setA L n k m b) F w' := by
  unfold setA
  by_cases h1 : 0 ≤ n ∧ n < (L.length : Int)
  · by_cases h2 : n = 0
    · subst h2
      rw [show mayR L.length 0 = 10 by unfold mayR; rw [if_pos h1, if_pos (.inl rfl)]]
      exact (set_zero h k m b hL).mono fun e w' hh => ⟨hh.1, Left.same h hh.2⟩
    · by_cases h3 : n = 1
      · subst h3
        rw [show mayR L.length 1 = 10 by unfold mayR; rw [if_pos h1, if_pos (.inr rfl)]]
        exact (set_const h k m b hL).mono fun e w' hh => ⟨hh.1, Left.same h hh.2⟩
      · obtain ⟨i, rfl⟩ : ∃ i : Nat, n = (i : Int) := ⟨n.toNat, by omega⟩
        rw [show mayR L.length (i : Int) = 0 by unfold mayR; rw [if_pos h1, if_neg (by omega)], if_pos rfl]
        have hi : i < L.length := by omega
        rw [show ((i : Int)).toNat = i by omega, List.getElem?_eq_getElem hi]
        exact set_ok h i L[i] (List.getElem?_eq_getElem hi) (by omega) k m b
  · rw [show mayR L.length n = 8 by unfold mayR; rw [if_neg h1]]
    exact (set_unknown h n k m b h1).mono fun e w' hh => ⟨hh.1, Left.same h hh.2⟩
theorem setfunc_all (h : TableIs w tb L F) (hL : 1 < L.length) (n k m : Int) : Calls Tryd.prog 21 #[.pointer (some ⟨tb, 0, none⟩), .int .i64 n, .agg #[.int .i64 k, .int .i64 m]] w
    fun e w' => e = .returned (.int .i64 (mayR L.length n)) ∧ Left w tb (setA L n k m true) F w' := by
  have hB : Below w.heap.size w (w.alloc (.cells #[.int .i64 k, .int .i64 m] 44)) := (Below.refl _ _).alloc (Nat.le_refl _) _
  have HS := hide (set_all (h.below hB) hL n k m true)
  clear h
  go_enter Tryd.func21, Tryd.ntmps21
  go_wp2_with (go_at_call 42; refine (Calls.mono HS.out) ?_; rintro e w' ⟨rfl, hl⟩)
  go_ret
  exact ⟨rfl, Left.after hB hl⟩
theorem clearfunc_all (h : TableIs w tb L F) (hL : 1 < L.length) (n : Int) : Calls Tryd.prog 29 #[.pointer (some ⟨tb, 0, none⟩), .int .i64 n] w
    fun e w' => e = .returned (.int .i64 (mayR L.length n)) ∧ Left w tb (setA L n 0 0 false) F w' := by
  have HS := hide (set_all h hL n 0 0 false)
  clear h
  go_enter Tryd.func29, Tryd.ntmps29
  go_wp2_with fail
  refine (Calls.mono HS.out) ?_
  rintro e w' ⟨rfl, hl⟩
  go_wp2
  go_ret
  exact ⟨rfl, hl⟩
set_option maxRecDepth 100000 in
set_option maxHeartbeats 4000000 in
theorem setprop_unknown (h : TableIs w tb L F) (n key k m : Int) (hn : ¬ ((0 ≤ n ∧ n < (L.length : Int)) ∧ (0 ≤ key ∧ key < (L.length : Int)))) : Calls Tryd.prog 26 #[.pointer (some ⟨tb, 0, none⟩), .int .i64 n, .int .i64 key, .agg #[.int .i64 k, .int .i64 m]] w
    fun e w' => e = .returned (.int .i64 8) ∧ Below w.heap.size w w' := by
  have hB : Below w.heap.size w (w.alloc (.cells #[.int .i64 k, .int .i64 m] 44)) := (Below.refl _ _).alloc (Nat.le_refl _) _
  have hA := h.below hB
  have HB := hide hB
  go_enter Tryd.func26, Tryd.ntmps26
  go_wp2_with fail
  generalize w.alloc (.cells #[.int .i64 k, .int .i64 m] 44) = w1 at *
  have HM := hide (made_any hA)
  have HH := hide (has_any hA n)
  have HK := hide (has_any hA key)
  by_cases h1 : 0 ≤ n ∧ n < (L.length : Int)
  · have h2 : ¬ (0 ≤ key ∧ key < (L.length : Int)) := fun h2 => hn ⟨h1, h2⟩
    rw [decide_eq_true h1] at HH
    rw [decide_eq_false h2] at HK
    clear h hA hB hn h1 h2
    refine (Calls.mono HM.out) ?_
    rintro e w' ⟨rfl, rfl⟩
    go_wp2_with fail
    refine (Calls.mono HH.out) ?_
    rintro e w' ⟨rfl, rfl⟩
    go_wp2_with fail
    refine (Calls.mono HK.out) ?_
    rintro e w' ⟨rfl, rfl⟩
    go_wp2
    go_ret
    exact ⟨rfl, HB.out⟩
  · rw [decide_eq_false h1] at HH
    clear h hA hB hn h1
    refine (Calls.mono HM.out) ?_
    rintro e w' ⟨rfl, rfl⟩
    go_wp2_with fail
    refine (Calls.mono HH.out) ?_
    rintro e w' ⟨rfl, rfl⟩
    go_wp2
    go_ret
    exact ⟨rfl, HB.out⟩
end
end Go.Proofs.YtkhjdhoaephdkaaDoor
