/- The walk of an act on the reference, and two logs of one state side by side. No condition but those written. -/
import Derived.Test.YtghcmakhfdnimaaDoorRefJ
import Derived.Test.YtghcmakhfdnimaaDoorUndR
import Derived.Test.YtghcmakhfdnimaaDoorUndS
namespace Go.Proofs.YtghcmakhfdnimaaDoor
open Go.RowKit

section
variable {W w w' : World} {b : Lb} {s : Lg} {R : Heap}
theorem now_le_cost {s : Lg} (hg : Good s) : 0 ≤ s.now ∧ s.now ≤ s.cost := by
  have h1 := hg.now
  have h2 := hg.cost
  omega
theorem radd_any (h : RefAt W w b s R) (hg : Good s) (hS : Small s) (c : Chg) (hs : c.tx.size ≤ 1099511627776) : Calls Tryd.prog 52 #[.pointer (some ⟨b.lb, 0, none⟩), c.val] w (RAddRes W b s R c) := by
  by_cases hc : c.check = 0
  · cases hj : s.joins c with
    | true => exact radd_join h c hs hS.lenO hc hj
    | false => exact radd_push h c hs hS.lenO hc hj ⟨(now_le_cost hg).1, (now_le_cost hg).2, hS.cost⟩
  · exact radd_bad h c hs hc
end
/-- What an act leaves. -/
def RActRes (W : World) (b : Lb) (s : Lg) (R : Heap) (a : Acn) (e : Ending) (w' : World) : Prop :=
  ∃ b' v, b'.lb = b.lb ∧ e = .returned (.tuple #[v, .int .i64 (s.actErr a)]) ∧ RefAt W w' b' (s.act a) (chgRow v (s.actOut a) ++ R) ∧ RowOk v (s.actOut a).length
section
variable {W w w' : World} {b : Lb} {s : Lg} {R : Heap}
set_option maxRecDepth 100000 in
set_option maxHeartbeats 2000000 in
theorem does_add (h : RefAt W w b s R) (hg : Good s) (hS : Small s) (a : Acn) (hs : a.c.tx.size ≤ 1099511627776) (hp : a.pk ≤ 3) : Calls Tryd.prog 34 #[.pointer (some ⟨b.lb, 0, none⟩), a.val] w (RActRes W b s R a) := by
  have hA := radd_any (h.skip (.cells #[.int .i64 a.kd, .int .i64 a.c.k, .int .i64 a.c.a, .int .i64 a.c.t, .int .i64 a.c.id, .int .i64 a.c.nm, .string a.c.tx, .int .i64 a.c.vk, .int .i64 a.c.vn, .bool a.c.had, .bool a.ag] 53)) hg hS a.c hs
  have HA := hide hA
  have HE := hide (show s.act a = s.add a.c ∧ s.actOut a = [] ∧ s.actErr a = a.c.check from ⟨by unfold Lg.act; rw [if_pos hp], by unfold Lg.actOut; rw [if_pos (by omega)], by unfold Lg.actErr; rw [if_pos hp]⟩)
  have hP := pick_any a.kd 8 (w.alloc (.cells #[.int .i64 a.kd, .int .i64 a.c.k, .int .i64 a.c.a, .int .i64 a.c.t, .int .i64 a.c.id, .int .i64 a.c.nm, .string a.c.tx, .int .i64 a.c.vk, .int .i64 a.c.vn, .bool a.c.had, .bool a.ag] 53)) (by omega) (by omega)
  have h0 : 0 ≤ a.pk := pickZ_ge (by omega)
  have hc : a.pk = 0 ∨ a.pk = 1 ∨ a.pk = 2 ∨ a.pk = 3 := by omega
  unfold Acn.pk at hc
  clear h hg hS hA hs hp h0
  rcases hc with e | e | e | e
  all_goals
    rw [e] at hP
    have HP := hide hP
    clear hP e
    go_enter Tryd.func34, Tryd.ntmps34
    go_wp2_with fail
    refine (Calls.mono HP.out) ?_
    rintro e w2 ⟨rfl, rfl⟩
    go_wp2_with fail
    refine (Calls.mono HA.out) ?_
    rintro e w3 ⟨rfl, b', hb', h3⟩
    have H3 := hide h3
    have HB := hide hb'
    clear h3 hb' HA
    go_wp2
    go_ret2
    refine ⟨b', .slice none 0 0, HB.out, by rw [HE.out.2.2]; rfl, ?_, ?_⟩
    · rw [HE.out.1, HE.out.2.1]; exact H3.out
    · rw [HE.out.2.1]; exact RowOk.nil
set_option maxRecDepth 100000 in
set_option maxHeartbeats 2000000 in
theorem does_close (h : RefAt W w b s R) (hg : Good s) (hS : Small s) (a : Acn) (hp : a.pk = 4) : Calls Tryd.prog 34 #[.pointer (some ⟨b.lb, 0, none⟩), a.val] w (RActRes W b s R a) := by
  have HA := hide (rclose_any (h.skip (.cells #[.int .i64 a.kd, .int .i64 a.c.k, .int .i64 a.c.a, .int .i64 a.c.t, .int .i64 a.c.id, .int .i64 a.c.nm, .string a.c.tx, .int .i64 a.c.vk, .int .i64 a.c.vn, .bool a.c.had, .bool a.ag] 53)) hg hS)
  have HE := hide (show s.act a = s.close ∧ s.actOut a = [] ∧ s.actErr a = 0 from ⟨by unfold Lg.act; rw [if_neg (by omega), if_pos hp], by unfold Lg.actOut; rw [if_pos (by omega)], by unfold Lg.actErr; rw [if_neg (by omega), if_pos hp]⟩)
  have hP := pick_any a.kd 8 (w.alloc (.cells #[.int .i64 a.kd, .int .i64 a.c.k, .int .i64 a.c.a, .int .i64 a.c.t, .int .i64 a.c.id, .int .i64 a.c.nm, .string a.c.tx, .int .i64 a.c.vk, .int .i64 a.c.vn, .bool a.c.had, .bool a.ag] 53)) (by omega) (by omega)
  unfold Acn.pk at hp
  rw [hp] at hP
  have HP := hide hP
  clear h hg hS hp hP
  go_enter Tryd.func34, Tryd.ntmps34
  go_wp2_with fail
  refine (Calls.mono HP.out) ?_
  rintro e w2 ⟨rfl, rfl⟩
  go_wp2_with fail
  refine (Calls.mono HA.out) ?_
  rintro e w3 ⟨rfl, b', hb', h3⟩
  have H3 := hide h3
  have HB := hide hb'
  clear h3 hb' HA
  go_wp2
  go_ret2
  refine ⟨b', .slice none 0 0, HB.out, by rw [HE.out.2.2]; rfl, ?_, ?_⟩
  · rw [HE.out.1, HE.out.2.1]; exact H3.out
  · rw [HE.out.2.1]; exact RowOk.nil
set_option maxRecDepth 100000 in
set_option maxHeartbeats 2000000 in
theorem does_undo (h : RefAt W w b s R) (hg : Good s) (hS : Small s) (hm : s.all.length ≤ 1000000) (a : Acn) (hp : 4 < a.pk) : Calls Tryd.prog 34 #[.pointer (some ⟨b.lb, 0, none⟩), a.val] w (RActRes W b s R a) := by
  have hA := rundo_any (h.skip (.cells #[.int .i64 a.kd, .int .i64 a.c.k, .int .i64 a.c.a, .int .i64 a.c.t, .int .i64 a.c.id, .int .i64 a.c.nm, .string a.c.tx, .int .i64 a.c.vk, .int .i64 a.c.vn, .bool a.c.had, .bool a.ag] 53)) hg hS hm a.again
  have HE := hide (show s.act a = s.undo a.again ∧ s.actOut a = s.undone a.again ∧ s.actErr a = s.undoErr a.again from ⟨by unfold Lg.act; rw [if_neg (by omega), if_neg (by omega)], by unfold Lg.actOut; rw [if_neg (by omega)], by unfold Lg.actErr; rw [if_neg (by omega), if_neg (by omega)]⟩)
  have hP := pick_any a.kd 8 (w.alloc (.cells #[.int .i64 a.kd, .int .i64 a.c.k, .int .i64 a.c.a, .int .i64 a.c.t, .int .i64 a.c.id, .int .i64 a.c.nm, .string a.c.tx, .int .i64 a.c.vk, .int .i64 a.c.vn, .bool a.c.had, .bool a.ag] 53)) (by omega) (by omega)
  have h8 : a.pk < 8 := pickZ_lt (by omega)
  have hc : (a.pk = 5 ∧ a.again = a.ag) ∨ (a.pk = 6 ∧ a.again = a.ag) ∨ (a.pk = 7 ∧ a.again = true) := by
    unfold Acn.again
    have : a.pk = 5 ∨ a.pk = 6 ∨ a.pk = 7 := by omega
    rcases this with e | e | e
    · exact .inl ⟨e, by rw [if_neg (by omega)]⟩
    · exact .inr (.inl ⟨e, by rw [if_neg (by omega)]⟩)
    · exact .inr (.inr ⟨e, by rw [if_pos e]⟩)
  clear h hg hS hp h8 hm
  rcases hc with ⟨e, e2⟩ | ⟨e, e2⟩ | ⟨e, e2⟩
  all_goals
    unfold Acn.pk at e
    rw [e] at hP
    rw [e2] at hA HE
    have HP := hide hP
    have HA := hide hA
    clear hP e e2 hA
    go_enter Tryd.func34, Tryd.ntmps34
    go_wp2_with fail
    refine (Calls.mono HP.out) ?_
    rintro e w2 ⟨rfl, rfl⟩
    go_wp2_with fail
    refine (Calls.mono HA.out) ?_
    rintro e w3 ⟨b', v, hb', rfl, h3, ok3⟩
    have H3 := hide h3
    have HB := hide hb'
    have HO := hide ok3
    clear h3 hb' HA ok3
    go_wp2
    go_ret2
    refine ⟨b', v, HB.out, by rw [HE.out.2.2]; rfl, ?_, ?_⟩
    · rw [HE.out.1, HE.out.2.1]; exact H3.out
    · rw [HE.out.2.1]; exact HO.out
theorem does_any (h : RefAt W w b s R) (hg : Good s) (hS : Small s) (hm : s.all.length ≤ 1000000) (a : Acn) (hs : a.c.tx.size ≤ 1099511627776) : Calls Tryd.prog 34 #[.pointer (some ⟨b.lb, 0, none⟩), a.val] w (RActRes W b s R a) := by
  by_cases h1 : a.pk ≤ 3
  · exact does_add h hg hS a hs h1
  · by_cases h2 : a.pk = 4
    · exact does_close h hg hS a h2
    · exact does_undo h hg hS hm a (by omega)
end


/-- A log and a log of the reference, side by side. -/
structure Both (W w : World) (b1 b2 : Lb) (s t : Lg) (R : Heap) : Prop where
  own : Own W w (b1.heap s ++ (b2.rheap t ++ R))
  ok1 : LbOk b1 s
  ok2 : LbOk b2 t
section
variable {W w w' : World} {b1 b2 : Lb} {s t : Lg} {R : Heap}
theorem Both.log (h : Both W w b1 b2 s t R) : LogAt W w b1 s (b2.rheap t ++ R) := LogAt.ofOwn h.own h.ok1
theorem Both.ref (h : Both W w b1 b2 s t R) : RefAt W w b2 t (b1.heap s ++ R) := by
  refine ⟨h.own.perm ?_, h.ok2⟩
  classical
  rw [List.perm_iff_count]
  intro x
  simp only [List.count_append, List.count_cons]
  omega
theorem Both.ofLog {L : Heap} (h : LogAt W w b1 s (L ++ (b2.rheap t ++ R))) (k : LbOk b2 t) : Both W w b1 b2 s t (L ++ R) := by
  refine ⟨h.own.perm ?_, h.ok, k⟩
  classical
  rw [List.perm_iff_count]
  intro x
  simp only [List.count_append, List.count_cons]
  omega
theorem Both.ofRef {L : Heap} (h : RefAt W w b2 t (L ++ (b1.heap s ++ R))) (k : LbOk b1 s) : Both W w b1 b2 s t (L ++ R) := by
  refine ⟨h.own.perm ?_, k, h.ok⟩
  classical
  rw [List.perm_iff_count]
  intro x
  simp only [List.count_append, List.count_cons]
  omega
theorem Both.below (h : Both W w b1 b2 s t R) (hb : Below w.heap.size w w') : Both W w' b1 b2 s t R := ⟨h.own.below hb, h.ok1, h.ok2⟩
theorem Both.drewN (h : Both W w b1 b2 s t R) (n : Nat) : Both W (w.drewN n) b1 b2 s t R := ⟨h.own.drewN n, h.ok1, h.ok2⟩
theorem Both.drew (h : Both W w b1 b2 s t R) : Both W w.drew b1 b2 s t R := ⟨h.own.drew, h.ok1, h.ok2⟩
theorem Both.sub {R' : Heap} (h : Both W w b1 b2 s t R) (hs : R'.Sublist R) : Both W w b1 b2 s t R' :=
  ⟨h.own.sub (List.Sublist.append (List.Sublist.refl _) (List.Sublist.append (List.Sublist.refl _) hs)), h.ok1, h.ok2⟩
theorem Both.none (h : Both W w b1 b2 s t R) : Both W w b1 b2 s t [] := h.sub (List.nil_sublist _)
end
end Go.Proofs.YtghcmakhfdnimaaDoor
