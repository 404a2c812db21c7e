/- The walks of an act and of the methods of no log. No condition but those written. -/
import Derived.Test.YtghcmakhfdnimaaDoorUndLim
namespace Go.Proofs.YtghcmakhfdnimaaDoor
open Go.RowKit

def Acn.pk (a : Acn) : Int := pickZ a.kd 8
def Acn.again (a : Acn) : Bool := if a.pk = 7 then true else a.ag
def Lg.act (s : Lg) (a : Acn) : Lg := if a.pk ≤ 3 then s.add a.c else if a.pk = 4 then s.close else s.undo a.again
def Lg.actOut (s : Lg) (a : Acn) : List Chg := if a.pk ≤ 4 then [] else s.undone a.again
def Lg.actErr (s : Lg) (a : Acn) : Int := if a.pk ≤ 3 then a.c.check else if a.pk = 4 then 0 else s.undoErr a.again
abbrev Acn.val (a : Acn) : Value := .agg #[.int .i64 a.kd, .int .i64 a.c.k, .int .i64 a.c.a, .int .i64 a.c.t, .int .i64 a.c.id, .int .i64 a.c.nm, .string a.c.tx, .int .i64 a.c.vk, .int .i64 a.c.vn, .bool a.c.had, .bool a.ag]
/-- What an act leaves. -/
def ActRes (W : World) (b : Lb) (s : Lg) (R : Heap) (a : Acn) (e : Ending) (w' : World) : Prop :=
  ∃ b' v, b'.lb = b.lb ∧ e = .returned (.tuple #[v, .int .i64 (s.actErr a)]) ∧ LogAt W w' b' (s.act a) (chgRow v (s.actOut a) ++ R) ∧ RowOk v (s.actOut a).length
theorem Good.act {s : Lg} (h : Good s) (a : Acn) : Good (s.act a) := by
  unfold Lg.act
  split
  · exact h.add _
  · split
    · exact h.close
    · exact h.undo _
theorem Sized.act {s : Lg} {n : Nat} (h : Sized s n) (hg : Good s) {a : Acn} (ha : a.c.tx.size ≤ 200) : Sized (s.act a) (n + 1) := by
  unfold Lg.act
  split
  · exact h.add ha
  · split
    · exact (h.close hg).mono (by omega)
    · exact (h.undo hg _).mono (by omega)
theorem actOut_len {s : Lg} {n : Nat} (h : Sized s n) (hg : Good s) (a : Acn) : (s.actOut a).length ≤ n := by
  unfold Lg.actOut
  split
  · simp
  · exact undone_len h hg _
section
variable {W w w' : World} {b : Lb} {s : Lg} {R : Heap}
set_option maxRecDepth 100000 in
set_option maxHeartbeats 2000000 in
theorem do_add (h : LogAt W w b s R) (hg : Good s) (hS : Small s) (hT : Rules W) (a : Acn) (hs : a.c.tx.size ≤ 1099511627776) (hp : a.pk ≤ 3) : Calls Tryd.prog 33 #[.pointer (some ⟨b.lb, 0, none⟩), a.val] w (ActRes W b s R a) := by
  have hA := add_any (h.skip (.cells #[.int .i64 a.kd, .int .i64 a.c.k, .int .i64 a.c.a, .int .i64 a.c.t, .int .i64 a.c.id, .int .i64 a.c.nm, .string a.c.tx, .int .i64 a.c.vk, .int .i64 a.c.vn, .bool a.c.had, .bool a.ag] 53)) hg hS hT a.c hs
  have HA := hide hA
  have HE := hide (show s.act a = s.add a.c ∧ s.actOut a = [] ∧ s.actErr a = a.c.check from ⟨by unfold Lg.act; rw [if_pos hp], by unfold Lg.actOut; rw [if_pos (by omega)], by unfold Lg.actErr; rw [if_pos hp]⟩)
  have hP := pick_any a.kd 8 (w.alloc (.cells #[.int .i64 a.kd, .int .i64 a.c.k, .int .i64 a.c.a, .int .i64 a.c.t, .int .i64 a.c.id, .int .i64 a.c.nm, .string a.c.tx, .int .i64 a.c.vk, .int .i64 a.c.vn, .bool a.c.had, .bool a.ag] 53)) (by omega) (by omega)
  have h0 : 0 ≤ a.pk := pickZ_ge (by omega)
  have hc : a.pk = 0 ∨ a.pk = 1 ∨ a.pk = 2 ∨ a.pk = 3 := by omega
  unfold Acn.pk at hc
  clear h hg hS hT hA hs hp h0
  rcases hc with e | e | e | e
  all_goals
    rw [e] at hP
    have HP := hide hP
    clear hP e
    go_enter Tryd.func33, Tryd.ntmps33
    go_wp2_with fail
    refine (Calls.mono HP.out) ?_
    rintro e w2 ⟨rfl, rfl⟩
    go_wp2_with fail
    refine (Calls.mono HA.out) ?_
    rintro e w3 ⟨rfl, b', hb', h3⟩
    have H3 := hide h3
    have HB := hide hb'
    clear h3 hb' HA
    go_wp2
    go_ret2
    refine ⟨b', .slice none 0 0, HB.out, by rw [HE.out.2.2]; rfl, ?_, ?_⟩
    · rw [HE.out.1, HE.out.2.1]; exact H3.out
    · rw [HE.out.2.1]; exact RowOk.nil
set_option maxRecDepth 100000 in
set_option maxHeartbeats 2000000 in
theorem do_close (h : LogAt W w b s R) (hg : Good s) (hS : Small s) (hT : Rules W) (a : Acn) (hp : a.pk = 4) : Calls Tryd.prog 33 #[.pointer (some ⟨b.lb, 0, none⟩), a.val] w (ActRes W b s R a) := by
  have HA := hide (boundary_any (h.skip (.cells #[.int .i64 a.kd, .int .i64 a.c.k, .int .i64 a.c.a, .int .i64 a.c.t, .int .i64 a.c.id, .int .i64 a.c.nm, .string a.c.tx, .int .i64 a.c.vk, .int .i64 a.c.vn, .bool a.c.had, .bool a.ag] 53)) hg hS hT)
  have HE := hide (show s.act a = s.close ∧ s.actOut a = [] ∧ s.actErr a = 0 from ⟨by unfold Lg.act; rw [if_neg (by omega), if_pos hp], by unfold Lg.actOut; rw [if_pos (by omega)], by unfold Lg.actErr; rw [if_neg (by omega), if_pos hp]⟩)
  have hP := pick_any a.kd 8 (w.alloc (.cells #[.int .i64 a.kd, .int .i64 a.c.k, .int .i64 a.c.a, .int .i64 a.c.t, .int .i64 a.c.id, .int .i64 a.c.nm, .string a.c.tx, .int .i64 a.c.vk, .int .i64 a.c.vn, .bool a.c.had, .bool a.ag] 53)) (by omega) (by omega)
  unfold Acn.pk at hp
  rw [hp] at hP
  have HP := hide hP
  clear h hg hS hT hp hP
  go_enter Tryd.func33, Tryd.ntmps33
  go_wp2_with fail
  refine (Calls.mono HP.out) ?_
  rintro e w2 ⟨rfl, rfl⟩
  go_wp2_with fail
  refine (Calls.mono HA.out) ?_
  rintro e w3 ⟨rfl, b', hb', h3⟩
  have H3 := hide h3
  have HB := hide hb'
  clear h3 hb' HA
  go_wp2
  go_ret2
  refine ⟨b', .slice none 0 0, HB.out, by rw [HE.out.2.2]; rfl, ?_, ?_⟩
  · rw [HE.out.1, HE.out.2.1]; exact H3.out
  · rw [HE.out.2.1]; exact RowOk.nil
set_option maxRecDepth 100000 in
set_option maxHeartbeats 2000000 in
theorem do_undo (h : LogAt W w b s R) (hg : Good s) (hS : Small s) (hT : Rules W) (hm : s.all.length ≤ 1000000) (a : Acn) (hp : 4 < a.pk) : Calls Tryd.prog 33 #[.pointer (some ⟨b.lb, 0, none⟩), a.val] w (ActRes W b s R a) := by
  have hA := undo_any (h.skip (.cells #[.int .i64 a.kd, .int .i64 a.c.k, .int .i64 a.c.a, .int .i64 a.c.t, .int .i64 a.c.id, .int .i64 a.c.nm, .string a.c.tx, .int .i64 a.c.vk, .int .i64 a.c.vn, .bool a.c.had, .bool a.ag] 53)) hg hS hT hm a.again
  have HE := hide (show s.act a = s.undo a.again ∧ s.actOut a = s.undone a.again ∧ s.actErr a = s.undoErr a.again from ⟨by unfold Lg.act; rw [if_neg (by omega), if_neg (by omega)], by unfold Lg.actOut; rw [if_neg (by omega)], by unfold Lg.actErr; rw [if_neg (by omega), if_neg (by omega)]⟩)
  have hP := pick_any a.kd 8 (w.alloc (.cells #[.int .i64 a.kd, .int .i64 a.c.k, .int .i64 a.c.a, .int .i64 a.c.t, .int .i64 a.c.id, .int .i64 a.c.nm, .string a.c.tx, .int .i64 a.c.vk, .int .i64 a.c.vn, .bool a.c.had, .bool a.ag] 53)) (by omega) (by omega)
  have h8 : a.pk < 8 := pickZ_lt (by omega)
  have hc : (a.pk = 5 ∧ a.again = a.ag) ∨ (a.pk = 6 ∧ a.again = a.ag) ∨ (a.pk = 7 ∧ a.again = true) := by
    unfold Acn.again
    have : a.pk = 5 ∨ a.pk = 6 ∨ a.pk = 7 := by omega
    rcases this with e | e | e
    · exact .inl ⟨e, by rw [if_neg (by omega)]⟩
    · exact .inr (.inl ⟨e, by rw [if_neg (by omega)]⟩)
    · exact .inr (.inr ⟨e, by rw [if_pos e]⟩)
  clear h hg hS hT hp h8 hm
  rcases hc with ⟨e, e2⟩ | ⟨e, e2⟩ | ⟨e, e2⟩
  all_goals
    unfold Acn.pk at e
    rw [e] at hP
    rw [e2] at hA HE
    have HP := hide hP
    have HA := hide hA
    clear hP e e2 hA
    go_enter Tryd.func33, Tryd.ntmps33
    go_wp2_with fail
    refine (Calls.mono HP.out) ?_
    rintro e w2 ⟨rfl, rfl⟩
    go_wp2_with fail
    refine (Calls.mono HA.out) ?_
    rintro e w3 ⟨b', v, hb', rfl, h3, ok3⟩
    have H3 := hide h3
    have HB := hide hb'
    have HO := hide ok3
    clear h3 hb' HA ok3
    go_wp2
    go_ret2
    refine ⟨b', v, HB.out, by rw [HE.out.2.2]; rfl, ?_, ?_⟩
    · rw [HE.out.1, HE.out.2.1]; exact H3.out
    · rw [HE.out.2.1]; exact HO.out
theorem do_any (h : LogAt W w b s R) (hg : Good s) (hS : Small s) (hT : Rules W) (hm : s.all.length ≤ 1000000) (a : Acn) (hs : a.c.tx.size ≤ 1099511627776) : Calls Tryd.prog 33 #[.pointer (some ⟨b.lb, 0, none⟩), a.val] w (ActRes W b s R a) := by
  by_cases h1 : a.pk ≤ 3
  · exact do_add h hg hS hT a hs h1
  · by_cases h2 : a.pk = 4
    · exact do_close h hg hS hT a h2
    · exact do_undo h hg hS hT hm a (by omega)
end

/-! ### No log -/
set_option maxRecDepth 100000 in
theorem add_nil (c : Chg) (w : World) : Calls Tryd.prog 21 #[.pointer none, c.val] w fun e w' => e = .returned (.int .i64 1) ∧ Below w.heap.size w w' := by
  have HB := hide ((Below.refl _ w).alloc (Nat.le_refl _) (.cells #[.int .i64 c.k, .int .i64 c.a, .int .i64 c.t, .int .i64 c.id, .int .i64 c.nm, .string c.tx, .int .i64 c.vk, .int .i64 c.vn, .bool c.had] 51))
  go_enter Tryd.func21, Tryd.ntmps21
  go_wp2_with (go_at_call 46; refine (none_nil _).mono ?_; rintro e w' ⟨rfl, rfl⟩)
  go_ret
  exact ⟨rfl, HB.out⟩
theorem boundary_nil (w : World) : Calls Tryd.prog 17 #[.pointer none] w fun e w' => e = .returned (.int .i64 1) ∧ w = w' := by
  go_enter Tryd.func17, Tryd.ntmps17
  go_wp2_with (go_at_call 46; refine (none_nil _).mono ?_; rintro e w' ⟨rfl, rfl⟩)
  go_ret
  exact ⟨rfl, rfl⟩
theorem undo_nil (again : Bool) (w : World) : Calls Tryd.prog 18 #[.pointer none, .bool again] w fun e w' => e = .returned (.tuple #[.slice none 0 0, .int .i64 1]) ∧ w = w' := by
  go_enter Tryd.func18, Tryd.ntmps18
  go_wp2_with (go_at_call 46; refine (none_nil _).mono ?_; rintro e w' ⟨rfl, rfl⟩)
  go_ret2
  exact ⟨rfl, rfl⟩
theorem clear_nil (w : World) : Calls Tryd.prog 31 #[.pointer none] w fun e w' => e = .returned (.int .i64 1) ∧ w = w' := by
  go_enter Tryd.func31, Tryd.ntmps31
  go_wp2_with (go_at_call 46; refine (none_nil _).mono ?_; rintro e w' ⟨rfl, rfl⟩)
  go_ret
  exact ⟨rfl, rfl⟩
theorem all_nil (w : World) : Calls Tryd.prog 23 #[.pointer none] w fun e w' => e = .returned (.slice none 0 0) ∧ w = w' := by
  go_enter Tryd.func23, Tryd.ntmps23
  go_wp2_with (go_at_call 46; refine (none_nil _).mono ?_; rintro e w' ⟨rfl, rfl⟩)
  go_ret
  exact ⟨rfl, rfl⟩
theorem many_nil (w : World) : Calls Tryd.prog 24 #[.pointer none] w fun e w' => e = .returned (.int .i64 0) ∧ w = w' := by
  go_enter Tryd.func24, Tryd.ntmps24
  go_wp2_with (go_at_call 46; refine (none_nil _).mono ?_; rintro e w' ⟨rfl, rfl⟩)
  go_ret
  exact ⟨rfl, rfl⟩
theorem cost_nil (w : World) : Calls Tryd.prog 26 #[.pointer none] w fun e w' => e = .returned (.int .i64 0) ∧ w = w' := by
  go_enter Tryd.func26, Tryd.ntmps26
  go_wp2_with (go_at_call 46; refine (none_nil _).mono ?_; rintro e w' ⟨rfl, rfl⟩)
  go_ret
  exact ⟨rfl, rfl⟩
theorem chain_nil (w : World) : Calls Tryd.prog 25 #[.pointer none] w fun e w' => e = .returned (.tuple #[.int .i64 0, .bool false]) ∧ w = w' := by
  go_enter Tryd.func25, Tryd.ntmps25
  go_wp2_with (go_at_call 46; refine (none_nil _).mono ?_; rintro e w' ⟨rfl, rfl⟩)
  go_ret2
  exact ⟨rfl, rfl⟩
theorem copy_nil (w : World) : Calls Tryd.prog 40 #[.pointer none] w fun e w' => e = .returned (.pointer none) ∧ w = w' := by
  go_enter Tryd.func40, Tryd.ntmps40
  go_wp2_with (go_at_call 46; refine (none_nil _).mono ?_; rintro e w' ⟨rfl, rfl⟩)
  go_ret
  exact ⟨rfl, rfl⟩
end Go.Proofs.YtghcmakhfdnimaaDoor
