/- The reference's table; both tables made from the same rules. No condition but those written. -/
import Derived.Test.YtdojcgefiekleaaDoorSck
import Derived.Test.YtdojcgefiekleaaDoorRow
namespace Go.Proofs.YtdojcgefiekleaaDoor
open Go.RowKit

def clE (x : Int × Int × Int) : List Value := [.int .i64 x.1, .int .i64 x.2.1, .int .i64 x.2.2]
theorem clE_len (x : Int × Int × Int) : (clE x).length = 3 := rfl
theorem clE_one (x : Int × Int × Int) : ∀ u ∈ clE x, u.oneCell' = true := by
  intro u hu
  simp [clE] at hu
  rcases hu with rfl | rfl | rfl <;> rfl
theorem info_cls : (Tryd.prog.info? 84).map (fun i => (i.zero, i.size, i.bytes)) = some (some (.agg #[.int .i64 0, .int .i64 0, .int .i64 0]), 3, 24) := by kernel_rfl
/-- The reference's table in memory: its rules, the newest last. -/
structure RTab (w0 w : World) (r : Nat) (v : Value) (lisp : Bool) (l : List (Int × Int × Int)) : Prop where
  blk : Blk w r 89 #[.bool lisp, v]
  row : Sl w 84 3 v l.length (rows clE l)
  ge : w0.heap.size ≤ r
  own : ∀ g, v.ownBlock = some g → w0.heap.size ≤ g
theorem RTab.below {w0 w w' : World} {r : Nat} {v : Value} {b : Bool} {l : List (Int × Int × Int)} (h : RTab w0 w r v b l) (hb : Below w.heap.size w w') : RTab w0 w' r v b l :=
  ⟨h.blk.below hb h.blk.lt, h.row.only (Only.of_below (F := fun _ => False) hb) fun _ _ f => f, h.ge, h.own⟩
theorem char_any (c : Int) (w : World) : Calls Tryd.prog 70 #[.int .i64 c] w fun e w' => e = .returned (.bool (isCh c)) ∧ w = w' := by
  by_cases h0 : 0 ≤ c
  · by_cases h1 : c ≤ 1114111
    · by_cases h2 : c < 55296
      · have hh : isCh c = true := by unfold isCh; simp; omega
        rw [hh]
        clear hh
        go_enter Tryd.func70, Tryd.ntmps70
        go_wp2
        go_ret
        exact ⟨by simp, rfl⟩
      · by_cases h3 : 57343 < c
        · have hh : isCh c = true := by unfold isCh; simp; omega
          rw [hh]
          clear hh
          go_enter Tryd.func70, Tryd.ntmps70
          go_wp2
          go_ret
          exact ⟨by simp, rfl⟩
        · have hh : isCh c = false := by unfold isCh; simp; omega
          rw [hh]
          clear hh
          go_enter Tryd.func70, Tryd.ntmps70
          go_wp2
          go_ret
          exact ⟨by simp, rfl⟩
    · have hh : isCh c = false := by unfold isCh; simp; omega
      rw [hh]
      clear hh
      go_enter Tryd.func70, Tryd.ntmps70
      go_wp2
      go_ret
      exact ⟨by simp, rfl⟩
  · have hh : isCh c = false := by unfold isCh; simp; omega
    rw [hh]
    clear hh
    go_enter Tryd.func70, Tryd.ntmps70
    go_wp2
    go_ret
    exact ⟨by simp, rfl⟩
/-- What Set does to the list. -/
def rset (l : List (Int × Int × Int)) (c k m : Int) : List (Int × Int × Int) := if setOk c k m then l ++ [(c, k, if mated k then m else 0)] else l
def setE (c k m : Int) : Int := if setOk c k m then 0 else 2
section
variable {w0 w : World} {r : Nat} {v : Value} {b : Bool} {l : List (Int × Int × Int)}
theorem setOk_eq {c k m : Int} {x y z : Bool} (hx : isCh c = x) (hy : mated k = y) (hz : isCh m = z) : setOk c k m = (x && decide (0 ≤ k ∧ k ≤ 10) && (!y || z)) := by unfold setOk; rw [hx, hy, hz]
set_option maxRecDepth 100000 in
set_option maxHeartbeats 4000000 in
theorem rset_bad (_h : RTab w0 w r v b l) (c k m : Int) (hs : setOk c k m = false) : Calls Tryd.prog 42 #[.pointer (some ⟨r, 0, none⟩), .int .i64 c, .int .i64 k, .int .i64 m] w fun e w' => e = .returned (.int .i64 2) ∧ w = w' := by
  by_cases k4 : k = 4 ∨ k = 5
  · cases ha : isCh c
    · have HA := hide ha
      clear ha hs
      rcases k4 with rfl | rfl
      all_goals go_enter Tryd.func42, Tryd.ntmps42
      all_goals go_wp2_with (go_at_call 70; refine (char_any _ _).mono ?_; rintro e w' ⟨rfl, rfl⟩; rw [HA.out])
      all_goals go_ret
      all_goals exact ⟨rfl, rfl⟩
    · have hd : isCh m = false := by
        cases hd : isCh m
        · rfl
        · rw [setOk_eq ha rfl hd] at hs
          simp at hs
          omega
      have HA := hide ha
      have HD := hide hd
      clear ha hs hd
      rcases k4 with rfl | rfl
      all_goals go_enter Tryd.func42, Tryd.ntmps42
      all_goals go_wp2_with (go_at_call 70; refine (char_any _ _).mono ?_; rintro e w' ⟨rfl, rfl⟩; first | rw [HA.out] | rw [HD.out])
      all_goals go_ret
      all_goals exact ⟨rfl, rfl⟩
  · have q4 : (k == 4) = false := by simp; omega
    have q5 : (k == 5) = false := by simp; omega
    have hm : mated k = false := by unfold mated; simp; omega
    cases ha : isCh c
    · have HA := hide ha
      clear ha hs hm k4
      go_enter Tryd.func42, Tryd.ntmps42
      go_wp2_with (go_at_call 70; refine (char_any _ _).mono ?_; rintro e w' ⟨rfl, rfl⟩; rw [HA.out])
      go_ret
      exact ⟨rfl, rfl⟩
    · have hk : k < 0 ∨ 10 < k := by
        rw [setOk_eq ha hm rfl] at hs
        simp at hs
        omega
      have HA := hide ha
      clear ha hs hm k4
      by_cases k0 : k < 0
      · clear hk
        go_enter Tryd.func42, Tryd.ntmps42
        go_wp2_with (go_at_call 70; refine (char_any _ _).mono ?_; rintro e w' ⟨rfl, rfl⟩; rw [HA.out])
        go_ret
        exact ⟨rfl, rfl⟩
      · have k1 : 10 < k := hk.resolve_left k0
        clear hk
        go_enter Tryd.func42, Tryd.ntmps42
        go_wp2_with (go_at_call 70; refine (char_any _ _).mono ?_; rintro e w' ⟨rfl, rfl⟩; rw [HA.out])
        go_ret
        exact ⟨rfl, rfl⟩
theorem RTab.snoc {A A' : Option Addr} {n n' c c' : Nat} {w' : World} {x : Int × Int × Int} (h : RTab w0 w r (.slice A n c) b l) (hs : Sl w' 84 3 (.slice A' n' c') (l.length + 1) (rows clE l ++ clE x)) (ho : Only (fun g => (Value.slice A n c).ownBlock = some g) w w') (hv : (Value.slice A' n' c').ownBlock = (Value.slice A n c).ownBlock ∨ ∃ g, (Value.slice A' n' c').ownBlock = some g ∧ w.heap.size ≤ g) :
    RTab w0 (w'.setCell ⟨r, 1, none⟩ (.slice A' n' c')) r (.slice A' n' c') b (l ++ [x]) ∧ Only (fun g => g = r ∨ (Value.slice A n c).ownBlock = some g) w (w'.setCell ⟨r, 1, none⟩ (.slice A' n' c')) := by
  have hne : (Value.slice A n c).ownBlock ≠ some r := h.row.ne_blk h.blk (by decide)
  have hb := h.blk.only ho hne
  have hne2 : (Value.slice A' n' c').ownBlock ≠ some r := hs.ne_blk hb (by decide)
  refine ⟨⟨hb.set_ 1 _, ?_, h.ge, fun g hg => ?_⟩, (ho.mono (G := fun g => g = r ∨ (Value.slice A n c).ownBlock = some g) fun i _ hi => Or.inr hi).setCell (p := ⟨r, 1, none⟩) (.inl (.inl rfl)) _⟩
  · rw [List.length_append, rows_append, rows_one]
    exact hs.far hne2 _
  · rcases hv with e | ⟨k, e, hk⟩
    · exact h.own g (e ▸ hg)
    · rw [e] at hg
      injection hg with hg
      have := h.blk.lt
      have := h.ge
      omega
set_option maxRecDepth 100000 in
set_option maxHeartbeats 4000000 in
theorem rset_ok (h : RTab w0 w r v b l) (hl : l.length ≤ 1000) (c k m : Int) (hs : setOk c k m = true) : Calls Tryd.prog 42 #[.pointer (some ⟨r, 0, none⟩), .int .i64 c, .int .i64 k, .int .i64 m] w fun e w' => e = .returned (.int .i64 0) ∧ (∃ v', RTab w0 w' r v' b (rset l c k m)) ∧ Only (fun g => g = r ∨ v.ownBlock = some g) w w' := by
  obtain ⟨i0, hi, hz0, hz1, hz2⟩ := info_parts info_cls
  obtain ⟨A, cp, rfl, _⟩ := h.row.form
  obtain ⟨m2, hm2⟩ : ∃ m2, m2 = if mated k then m else 0 := ⟨_, rfl⟩
  have HE := hide (show rset l c k m = l ++ [(c, k, m2)] from by unfold rset; rw [if_pos hs, hm2])
  have ha : isCh c = true := by
    cases ha : isCh c
    · rw [setOk_eq ha rfl rfl] at hs
      simp at hs
    · rfl
  have hk : 0 ≤ k ∧ k ≤ 10 := by
    rw [setOk_eq ha rfl rfl] at hs
    simp at hs
    omega
  have HA := hide ha
  have h0 : ¬ k < 0 := by omega
  have h1 : ¬ 10 < k := by omega
  have c1 : w.cell? ⟨r, 1, none⟩ = some (.slice A l.length cp) := (h.blk.cell 1).trans rfl
  have HR := hide h
  have HL := hide hl
  obtain ⟨n, hn⟩ : ∃ n, n = l.length := ⟨_, rfl⟩
  have HST := hide (show Sl w 84 3 (.slice A n cp) n (rows clE l) from by rw [hn]; exact h.row)
  have HN := hide hn
  rw [← hn] at c1 HL
  have hnb : (n : Int) ≤ 1000 := by have := HL.out; omega
  by_cases k4 : k = 4 ∨ k = 5
  · have hd : isCh m = true := by
      cases hd : isCh m
      · have hm : mated k = true := by unfold mated; simpa using k4
        rw [setOk_eq ha hm hd] at hs
        simp at hs
      · rfl
    have hm3 : m2 = m := by
      rw [hm2]
      have hm : mated k = true := by unfold mated; simpa using k4
      rw [hm]
      rfl
    have HD := hide hd
    subst hm3
    clear ha hs hd h hn hk hl hm2
    rcases k4 with rfl | rfl
    · go_enter Tryd.func42, Tryd.ntmps42
      go_wp2_with (first | (go_at_call 70; refine (char_any _ _).mono ?_; rintro e w' ⟨rfl, rfl⟩; first | rw [HA.out] | rw [HD.out]) | (at_builtin; refine wpList_append_sl rfl (.tmp 41) (.tmp 46) 87 rfl 84 i0 (.agg #[.int .i64 0, .int .i64 0, .int .i64 0]) 3 24 Tryd.underlying87 hi hz0 hz1 hz2 rfl _ n (rows clE l) rfl (HST.out.alloc _) _ rfl 1 (clE (c, 4, m2)) (rd_elem w _ 3 _ rfl) (clE_one _) ?b1 ?b2 ?_))
      case b1 => unfold maxLen; omega
      case b2 => omega
      intro v2 w2 hs2 ho2 hv2
      obtain ⟨A2, c2, rfl, -⟩ := hs2.form
      have HO := hide (((Only.refl _ w).alloc _).trans ho2)
      have hne : (Value.slice A n cp).ownBlock ≠ some r := HST.out.ne_blk HR.out.blk (by decide)
      have hb2 := HR.out.blk.only HO.out hne
      have HS2 := hide hs2
      have HV2 := hide hv2
      have d1 := hb2.cell 1
      have d2 := hb2.frozen 1
      clear hne hb2 hs2 ho2 hv2
      go_wp2
      go_ret
      have hR := HR.out.snoc (x := (c, 4, m2)) (by rw [← HN.out]; exact HS2.out) (by have := HO.out; rw [HN.out] at this; exact this) (by
        rcases HV2.out with e | e
        · exact .inl (e.trans (by cases A <;> rfl))
        · exact .inr ⟨_, e, by simp⟩)
      exact ⟨rfl, ⟨_, by rw [HE.out]; exact hR.1⟩, hR.2⟩
    · go_enter Tryd.func42, Tryd.ntmps42
      go_wp2_with (first | (go_at_call 70; refine (char_any _ _).mono ?_; rintro e w' ⟨rfl, rfl⟩; first | rw [HA.out] | rw [HD.out]) | (at_builtin; refine wpList_append_sl rfl (.tmp 41) (.tmp 46) 87 rfl 84 i0 (.agg #[.int .i64 0, .int .i64 0, .int .i64 0]) 3 24 Tryd.underlying87 hi hz0 hz1 hz2 rfl _ n (rows clE l) rfl (HST.out.alloc _) _ rfl 1 (clE (c, 5, m2)) (rd_elem w _ 3 _ rfl) (clE_one _) ?b1 ?b2 ?_))
      case b1 => unfold maxLen; omega
      case b2 => omega
      intro v2 w2 hs2 ho2 hv2
      obtain ⟨A2, c2, rfl, -⟩ := hs2.form
      have HO := hide (((Only.refl _ w).alloc _).trans ho2)
      have hne : (Value.slice A n cp).ownBlock ≠ some r := HST.out.ne_blk HR.out.blk (by decide)
      have hb2 := HR.out.blk.only HO.out hne
      have HS2 := hide hs2
      have HV2 := hide hv2
      have d1 := hb2.cell 1
      have d2 := hb2.frozen 1
      clear hne hb2 hs2 ho2 hv2
      go_wp2
      go_ret
      have hR := HR.out.snoc (x := (c, 5, m2)) (by rw [← HN.out]; exact HS2.out) (by have := HO.out; rw [HN.out] at this; exact this) (by
        rcases HV2.out with e | e
        · exact .inl (e.trans (by cases A <;> rfl))
        · exact .inr ⟨_, e, by simp⟩)
      exact ⟨rfl, ⟨_, by rw [HE.out]; exact hR.1⟩, hR.2⟩
  · have hm : mated k = false := by unfold mated; simpa using k4
    have hm3 : m2 = 0 := by rw [hm2, hm]; rfl
    have q4 : (k == 4) = false := by simp; omega
    have q5 : (k == 5) = false := by simp; omega
    subst hm3
    clear ha hs h hn hk hl hm hm2 k4
    go_enter Tryd.func42, Tryd.ntmps42
    go_wp2_with (first | (go_at_call 70; refine (char_any _ _).mono ?_; rintro e w' ⟨rfl, rfl⟩; first | rw [HA.out] | rw [HD.out]) | (at_builtin; refine wpList_append_sl rfl (.tmp 41) (.tmp 46) 87 rfl 84 i0 (.agg #[.int .i64 0, .int .i64 0, .int .i64 0]) 3 24 Tryd.underlying87 hi hz0 hz1 hz2 rfl _ n (rows clE l) rfl (HST.out.alloc _) _ rfl 1 (clE (c, k, 0)) (rd_elem w _ 3 _ rfl) (clE_one _) ?b1 ?b2 ?_))
    case b1 => unfold maxLen; omega
    case b2 => omega
    intro v2 w2 hs2 ho2 hv2
    obtain ⟨A2, c2, rfl, -⟩ := hs2.form
    have HO := hide (((Only.refl _ w).alloc _).trans ho2)
    have hne : (Value.slice A n cp).ownBlock ≠ some r := HST.out.ne_blk HR.out.blk (by decide)
    have hb2 := HR.out.blk.only HO.out hne
    have HS2 := hide hs2
    have HV2 := hide hv2
    have d1 := hb2.cell 1
    have d2 := hb2.frozen 1
    clear hne hb2 hs2 ho2 hv2
    go_wp2
    go_ret
    have hR := HR.out.snoc (x := (c, k, 0)) (by rw [← HN.out]; exact HS2.out) (by have := HO.out; rw [HN.out] at this; exact this) (by
      rcases HV2.out with e | e
      · exact .inl (e.trans (by cases A <;> rfl))
      · exact .inr ⟨_, e, by simp⟩)
    exact ⟨rfl, ⟨_, by rw [HE.out]; exact hR.1⟩, hR.2⟩
end
end Go.Proofs.YtdojcgefiekleaaDoor
