/- The reference's lists of lists: may, List, Get. No condition but those written. -/
import Derived.Test.YtgiogmbopiblmaaPqt
import Derived.Deep.QuietTactic
import Derived.BigQuiet
import Derived.Deep.CutBlock
import Derived.Deep.DeepCutAuto
namespace Go.Proofs.Ytgiogmbopiblmaa
open Go.RowKit

/-- A list's cell: where it lies. -/
def lxC (x : List Pr × Value) : List Value := [x.2]
theorem lxC_len (x : List Pr × Value) : (lxC x).length = 1 := rfl
/-- Lists in memory. -/
structure LxAt (W : World) (v : Value) (R : List (List Pr × Value)) : Prop where
  row : Sl W 32 1 v R.length (rows lxC R)
  inn : ∀ x ∈ R, PrS W x.2 x.1
def lsts (R : List (List Pr × Value)) : List (List Pr) := R.map (·.1)
theorem lsts_len (R : List (List Pr × Value)) : (lsts R).length = R.length := by simp [lsts]
/-- The list of a place. -/
def lstI (L : List (List Pr)) (x : Int) : List Pr := if x < 1 then [] else (L[(x - 1).toNat]?).getD []
theorem info_lx : (Try.prog.info? 32).map (fun i => (i.zero, i.size, i.bytes)) = some (some (.slice none 0 0), 1, 24) := by kernel_rfl
section
variable {W w w' : World} {v : Value} {R : List (List Pr × Value)}
theorem LxAt.nil (W : World) : LxAt W (.slice none 0 0) [] := ⟨Sl.nil _ _ _, fun p hp => by cases hp⟩
theorem LxAt.below (h : LxAt w v R) (hb : Below w.heap.size w w') : LxAt w' v R := ⟨h.row.only (Only.of_below (F := fun _ => False) hb) fun _ _ f => f, fun p hp => (h.inn p hp).below hb⟩
theorem LxAt.one (h : LxAt w v R) : ∀ u ∈ rows lxC R, u.oneCell' = true := by
  intro u hu
  obtain ⟨p, hp, hu⟩ := List.mem_flatMap.1 hu
  simp only [lxC, List.mem_cons, List.not_mem_nil, or_false] at hu
  rw [hu]
  exact (h.inn p hp).one
theorem LxAt.at_ {A : Option Addr} {n c i : Nat} {x : List Pr × Value} (h : LxAt w (.slice A n c) R) (hi : R[i]? = some x) : ∃ g off, A = some ⟨g, off, none⟩ ∧ w.cell? ⟨g, off + i, none⟩ = some x.2 := by
  have hlt := (List.getElem?_eq_some_iff.1 hi).1
  obtain ⟨g, off, c', hv1, _, _, _, _, hc1⟩ := Sl.fld lxC_len h.row (by omega)
  obtain ⟨rfl, rfl⟩ : A = some ⟨g, off, none⟩ ∧ c = c' := by
    injection hv1 with e1 _ e2
    exact ⟨e1, e2⟩
  have := hc1 i _ 0 _ hi rfl
  rw [Nat.mul_one] at this
  exact ⟨g, off, rfl, this⟩
end
/-- The reference's object. -/
structure RfAt (W : World) (rb : Nat) (v : Value) (R : List (List Pr × Value)) : Prop where
  box : Blk W rb 84 #[v]
  inn : LxAt W v R
  len : R.length ≤ 65536
  fit : ∀ x ∈ R, x.1.length ≤ 1000
section
variable {w w' : World} {rb : Nat} {v : Value} {R : List (List Pr × Value)}
theorem RfAt.below (h : RfAt w rb v R) (hb : Below w.heap.size w w') : RfAt w' rb v R := ⟨h.box.below hb h.box.lt, h.inn.below hb, h.len, h.fit⟩
instance decMay (a b : Int) : Decidable (mayP a b) := inferInstanceAs (Decidable (1 ≤ a ∧ a ≤ b ∧ b ≤ 65537))
theorem rmay_any (a b : Int) (w : World) : Calls Try.prog 70 #[.int .i64 a, .int .i64 b] w fun e w' => e = .returned (.bool (decide (mayP a b))) ∧ w = w' := by
  have HE := hide (show decide (mayP a b) = (decide (1 ≤ a) && (decide (a ≤ b) && decide (b ≤ 65537))) by
    unfold mayP
    by_cases h1 : 1 ≤ a <;> by_cases h2 : a ≤ b <;> by_cases h3 : b ≤ 65537 <;> simp [h1, h2, h3])
  by_cases h1 : 1 ≤ a
  · have z1 : decide (1 ≤ a) = true := by simpa using h1
    by_cases h2 : a ≤ b
    · have z2 : decide (a ≤ b) = true := by simpa using h2
      by_cases h3 : b ≤ 65537
      · have z3 : decide (b ≤ 65537) = true := by simpa using h3
        go_enter Try.func70, Try.ntmps70
        go_wp2
        go_ret
        exact ⟨by rw [HE.out, z1, z2, z3]; rfl, rfl⟩
      · have z3 : decide (b ≤ 65537) = false := by simpa using h3
        go_enter Try.func70, Try.ntmps70
        go_wp2
        go_ret
        exact ⟨by rw [HE.out, z1, z2, z3]; rfl, rfl⟩
    · have z2 : decide (a ≤ b) = false := by simpa using h2
      go_enter Try.func70, Try.ntmps70
      go_wp2
      go_ret
      exact ⟨by rw [HE.out, z1, z2]; rfl, rfl⟩
  · have z1 : decide (1 ≤ a) = false := by simpa using h1
    go_enter Try.func70, Try.ntmps70
    go_wp2
    go_ret
    exact ⟨by rw [HE.out, z1]; rfl, rfl⟩
/-- A list handed back. -/
def LsRes (w : World) (q : List Pr) (e : Ending) (w' : World) : Prop := ∃ v, e = .returned v ∧ PrS w' v q ∧ (∀ g, v.ownBlock = some g → w.heap.size ≤ g) ∧ Below w.heap.size w w'
set_option maxRecDepth 100000 in
set_option maxHeartbeats 4000000 in
theorem rlist_any (h : RfAt w rb v R) (x : Int) : Calls Try.prog 37 #[.pointer (some ⟨rb, 0, none⟩), .int .i64 x] w (LsRes w (lstI (lsts R) x)) := by
  obtain ⟨A, c, rfl, _⟩ := h.inn.row.form
  obtain ⟨n, hn⟩ : ∃ n, n = R.length := ⟨_, rfl⟩
  have hn2 : (n : Int) ≤ 65536 := by have := h.len; omega
  have c0 : w.cell? ⟨rb, 0, none⟩ = some (.slice A n c) := by rw [hn]; exact h.box.cell 0
  have H := hide h
  rw [← hn] at H
  have HN := hide hn
  clear h
  by_cases h1 : x < 1
  · have z1 : decide (x < 1) = true := by simpa using h1
    have HE := hide (show lstI (lsts R) x = [] by unfold lstI; rw [if_pos h1])
    clear hn
    go_enter Try.func37, Try.ntmps37
    go_wp2
    go_ret
    exact ⟨.slice none 0 0, rfl, by rw [HE.out]; exact Sl.nil _ _ _, (by intro g hg; cases hg), Below.refl _ _⟩
  have z1 : decide (x < 1) = false := by simpa using h1
  by_cases h2 : (n : Int) < x
  · have z2 : decide ((n : Int) < x) = true := by simpa using h2
    have HE := hide (show lstI (lsts R) x = [] by unfold lstI; rw [if_neg h1, List.getElem?_eq_none (by rw [lsts_len]; omega)]; rfl)
    clear hn
    go_enter Try.func37, Try.ntmps37
    go_wp2
    go_ret
    exact ⟨.slice none 0 0, rfl, by rw [HE.out]; exact Sl.nil _ _ _, (by intro g hg; cases hg), Below.refl _ _⟩
  have z2 : decide ((n : Int) < x) = false := by simpa using h2
  obtain ⟨i, rfl⟩ : ∃ i : Nat, x = (i : Int) + 1 := ⟨(x - 1).toNat, by omega⟩
  have wx : IntKind.i64.wrap ((i : Int) + 1 - 1) = (i : Int) := by rw [show (i : Int) + 1 - 1 = (i : Int) by omega]; exact IntWalk.i64_in _ (by omega)
  have hin : i < n := by omega
  obtain ⟨⟨q, qv⟩, hq⟩ : ∃ y, R[i]? = some y := ⟨_, List.getElem?_eq_getElem (by omega)⟩
  obtain ⟨g, off, rfl, d0⟩ := H.out.inn.at_ hq
  have hqs := H.out.inn.inn _ (List.mem_of_getElem? hq)
  obtain ⟨Aq, cq, hqv, _⟩ := Sl.form hqs
  have hqv2 : qv = .slice Aq q.length cq := hqv
  subst hqv2
  have HE := hide (show lstI (lsts R) ((i : Int) + 1) = q by
    unfold lstI lsts
    rw [if_neg h1, show ((i : Int) + 1 - 1).toNat = i by omega, List.getElem?_map, hq]
    rfl)
  have hql : q.length ≤ 1000 := H.out.fit _ (List.mem_of_getElem? hq)
  obtain ⟨i0, hi, hz0, hz1, hz2⟩ := info_parts info_pr
  have he := Sl.new w 36 3 #[] 0 0 (Nat.le_refl _) (by simp [maxLen]) (by simp)
  have he2 : Sl (w.alloc (.cells #[] 36)) 36 3 (.slice (some ⟨w.heap.size, 0, none⟩) 0 0) 0 [] := by simpa using he
  have hB : Below w.heap.size w (w.alloc (.cells #[] 36)) := (Below.refl _ _).alloc (Nat.le_refl _) _
  have hr : Rd (w.alloc (.cells #[] 36)) (.slice Aq q.length cq) 3 q.length (rows prC q) := (Sl.rd hqs).only (Only.of_below hB) fun _ _ f => f
  have c1 := cell_keep c0 hB
  have d1 := cell_keep d0 hB
  have hone : ∀ u ∈ rows prC q, u.oneCell' = true := rows_cells fun z _ => prC_one z
  have y1 : decide (i < n) = true := by simpa using hin
  have y2 : decide ((i : Int) < (n : Int)) = true := by simp; omega
  have y3 : (i : Int) < (n : Int) := by omega
  clear hqs hqv hq hn h1 h2 hin
  go_enter Try.func37, Try.ntmps37
  go_wp2_with (at_builtin; refine wpList_append_sl rfl (.tmp 16) (.tmp 24) 32 rfl 36 i0 (.agg #[.int .i64 0, .int .i64 0, .int .i64 0]) 3 24 Try.underlying32 hi hz0 hz1 hz2 rfl _ 0 [] rfl he2 _ rfl q.length (rows prC q) hr hone ?b1 ?b2 ?_)
  case b1 => unfold maxLen; omega
  case b2 => omega
  intro v' w' hsl honly hv'
  have HB := hide (hB.trans (honly.below (B := w.heap.size) (by simp) fun i hi => by simp [Value.ownBlock] at hi; omega))
  have HS := hide (show PrS w' v' q by unfold PrS; simpa using hsl)
  have HG := hide (show ∀ g, v'.ownBlock = some g → w.heap.size ≤ g from fun g hg => by
    rcases hv' with e | e <;> rw [e] at hg <;> simp [Value.ownBlock] at hg <;> omega)
  obtain ⟨A', c', rfl, _⟩ := hsl.form
  clear hsl honly hv' hB he
  go_wp2
  go_ret
  exact ⟨_, rfl, by rw [HE.out]; simpa using HS.out, HG.out, HB.out⟩
set_option maxRecDepth 100000 in
set_option maxHeartbeats 4000000 in
theorem rget_any (h : RfAt w rb v R) (x nm : Int) : Calls Try.prog 36 #[.pointer (some ⟨rb, 0, none⟩), .int .i64 x, .int .i64 nm] w fun e w' => e = .returned (.tuple #[.agg #[.int .i64 (getV (lstI (lsts R) x) nm).1, .int .i64 (getV (lstI (lsts R) x) nm).2], .bool (getP (lstI (lsts R) x) nm).isSome]) ∧ Below w.heap.size w w' := by
  have hb0 := below_box w (.cells #[.int .i64 0, .int .i64 0] 29)
  have HL := hide (rlist_any (h.below hb0) x)
  have HF0 := hide (Blk.new w 29 #[.int .i64 0, .int .i64 0])
  have HB0 := hide hb0
  have hfit : (lstI (lsts R) x).length ≤ 1000 := by
    unfold lstI lsts
    split
    · simp
    · rw [List.getElem?_map]
      cases hq : R[(x - 1).toNat]? with
      | none => simp
      | some y => exact h.fit y (List.mem_of_getElem? hq)
  obtain ⟨l, hl⟩ : ∃ l, l = lstI (lsts R) x := ⟨_, rfl⟩
  rw [← hl] at HL hfit ⊢
  have hl2 : (l.length : Int) ≤ 1000 := by omega
  clear h hb0 hl hfit
  go_enter Try.func36, Try.ntmps36
  go_wp2_with fail
  refine (Calls.mono HL.out) ?_
  rintro r w1 ⟨v1, rfl, h1, _, b1⟩
  obtain ⟨A, c, rfl, _⟩ := Sl.form h1
  have HP := hide (show Rd w1 (.slice A l.length c) 3 l.length (rows prC l) from Sl.rd h1)
  have HF1 := hide (HF0.out.below b1 HF0.out.lt)
  have HB1 := hide (HB0.out.trans (b1.mono HB0.out.size))
  clear h1 b1 HL HF0 HB0
  go_wp2
  go_loopw [9] (fun i wr => ∃ k : Nat, i = .int .i64 (k : Int) ∧ k ≤ l.length ∧ (∀ y ∈ l.take k, y.1 ≠ nm) ∧ w1 = wr) (fun i _ => l.length - (intOf i).toNat)
  case atStart => exact ⟨0, rfl, Nat.zero_le _, by simp, rfl⟩
  case round =>
    obtain ⟨k, rfl, hk, hn, rfl⟩ := hrel
    have HN := hide hn
    have c0 := HF1.out.cell 0
    have c1 := HF1.out.cell 1
    have f0 := HF1.out.frozen 0
    have f1 := HF1.out.frozen 1
    by_cases hlt : k < l.length
    · have z0 : decide (k < l.length) = true := by simpa using hlt
      have z1 : decide ((k : Int) < (l.length : Int)) = true := by simp; omega
      have z2 : (k : Int) < (l.length : Int) := by omega
      obtain ⟨y, hx⟩ : ∃ x, l[k]? = some x := ⟨_, List.getElem?_eq_getElem hlt⟩
      obtain ⟨g1, o1, d1, hv1, hc1⟩ := Rd.fld prC_len HP.out (by omega)
      obtain ⟨rfl, rfl⟩ : A = some ⟨g1, o1, none⟩ ∧ c = d1 := by
        injection hv1 with e1 _ e2
        exact ⟨e1, e2⟩
      have p0 : w1.cell? ⟨g1, o1 + k * 3, none⟩ = some (.int .i64 y.1) := hc1 k y 0 _ hx rfl
      have p1 : w1.cell? ⟨g1, o1 + k * 3 + 1, none⟩ = some (.int .i64 y.2.1) := hc1 k y 1 _ hx rfl
      have p2 : w1.cell? ⟨g1, o1 + k * 3 + 1 + 1, none⟩ = some (.int .i64 y.2.2) := hc1 k y 2 _ hx rfl
      have HX := hide hx
      have HLT := hide hlt
      clear hx hc1 hv1 hk hlt hn
      by_cases he : y.1 = nm
      · have q1 : (y.1 == nm) = true := by simpa using he
        have HV := hide (getP_at HX.out HN.out he)
        clear he
        go_wp2
        refine bodyPost_ret (results_cell_tmp2 rfl _ _ w.heap.size 29 _ (0, 0) _ rfl ((HF1.out.set_ 0 _).set_ 1 _) Try.underlying29 rfl (by kernel_rfl)) rfl ?_
        refine ⟨by unfold getV; rw [HV.out]; rfl, ?_⟩
        exact (HB1.out.setCell (p := ⟨w.heap.size, 0, none⟩) (Nat.le_refl _) _).setCell (p := ⟨w.heap.size, 1, none⟩) (Nat.le_refl _) _
      · have q1 : (y.1 == nm) = false := by simpa using he
        have HE := hide he
        clear he
        go_wp2
        go_roundw
        case rel => exact ⟨k + 1, by go_num, HLT.out, fun z hy => by
          rw [List.take_add_one, HX.out] at hy
          rcases List.mem_append.1 hy with hy | hy
          · exact HN.out z hy
          · have : z = y := by simpa using hy
            exact this ▸ HE.out, trivial⟩
        case measure => have := HLT.out; simp [intOf]; omega
    · have z0 : decide (k < l.length) = false := by simpa using hlt
      have z1 : decide ((k : Int) < (l.length : Int)) = false := by simp; omega
      have z2 : ¬ (k : Int) < (l.length : Int) := by omega
      obtain rfl : k = l.length := by omega
      have HV := hide (getP_off (l := l) (n := nm) (by rw [List.take_length] at hn; exact hn))
      clear hk hlt hn
      go_wp2
      refine bodyPost_ret (results_cell_tmp2 rfl _ _ w.heap.size 29 _ (0, 0) _ rfl ((HF1.out.set_ 0 _).set_ 1 _) Try.underlying29 rfl (by kernel_rfl)) rfl ?_
      refine ⟨by unfold getV; rw [HV.out]; rfl, ?_⟩
      exact (HB1.out.setCell (p := ⟨w.heap.size, 0, none⟩) (Nat.le_refl _) _).setCell (p := ⟨w.heap.size, 1, none⟩) (Nat.le_refl _) _
theorem fresh_put {w w1 w2 : World} {v v2 : Value} (hB : Below w.heap.size w w1) (hO : ∀ g, v.ownBlock = some g → w.heap.size ≤ g) (o : Go.Obj) (ho : Only (fun g => v.ownBlock = some g) (w1.alloc o) w2) (hv : v2.ownBlock = v.ownBlock ∨ v2.ownBlock = some (w1.alloc o).heap.size) : Below w.heap.size w w2 ∧ ∀ g, v2.ownBlock = some g → w.heap.size ≤ g := by
  have hb1 : Below w.heap.size w (w1.alloc o) := hB.alloc hB.size o
  refine ⟨hb1.trans (ho.below hb1.size fun g hg => hO g hg), fun g hg => ?_⟩
  rcases hv with e | e
  · exact hO g (by rw [← e]; exact hg)
  · rw [e] at hg
    cases hg
    exact hb1.size
theorem without_step {l : List Pr} {k : Nat} {y : Pr} {n : Int} (h : l[k]? = some y) : withoutP (l.take (k + 1)) n = if y.1 = n then withoutP (l.take k) n else withoutP (l.take k) n ++ [y] := by
  unfold withoutP
  rw [List.take_add_one, h, List.filter_append]
  by_cases e : y.1 = n <;> simp [e]
set_option maxRecDepth 100000 in
set_option maxHeartbeats 4000000 in
theorem rwithout_any (l : List Pr) (v : Value) (nm : Int) (h : PrS w v l) (hl : l.length ≤ 1000) : Calls Try.prog 82 #[v, .int .i64 nm] w (LsRes w (withoutP l nm)) := by
  obtain ⟨A, c, rfl, _⟩ := Sl.form h
  have HP := hide h
  have hl2 : (l.length : Int) ≤ 1000 := by omega
  obtain ⟨i0, hi, hz0, hz1, hz2⟩ := info_parts info_pr
  have HI := hide hi
  have HZ := hide hz0
  have HZ1 := hide hz1
  have HZ2 := hide hz2
  clear h hi hz0 hz1 hz2
  go_enter Try.func82, Try.ntmps82
  go_wp2
  go_loopw [5, 6] (fun ov i wr => ∃ k : Nat, i = .int .i64 (k : Int) ∧ k ≤ l.length ∧ PrS wr ov (withoutP (l.take k) nm) ∧ (∀ g, ov.ownBlock = some g → w.heap.size ≤ g) ∧ Below w.heap.size w wr) (fun _ i _ => l.length - (intOf i).toNat)
  case atStart => exact ⟨0, rfl, Nat.zero_le _, Sl.nil _ _ _, (by intro g hg; cases hg), Below.refl _ _⟩
  case round =>
    obtain ⟨k, rfl, hk, ho, hg, hb⟩ := hrel
    by_cases hlt : k < l.length
    · have z0 : decide (k < l.length) = true := by simpa using hlt
      have z1 : decide ((k : Int) < (l.length : Int)) = true := by simp; omega
      have z2 : (k : Int) < (l.length : Int) := by omega
      obtain ⟨y, hx⟩ : ∃ x, l[k]? = some x := ⟨_, List.getElem?_eq_getElem hlt⟩
      obtain ⟨g1, o1, d1, hv1, hc1⟩ := Rd.fld prC_len (Sl.rd (HP.out.below hb)) (by omega)
      obtain ⟨rfl, rfl⟩ : A = some ⟨g1, o1, none⟩ ∧ c = d1 := by
        injection hv1 with e1 _ e2
        exact ⟨e1, e2⟩
      have p0 : wr.cell? ⟨g1, o1 + k * 3, none⟩ = some (.int .i64 y.1) := hc1 k y 0 _ hx rfl
      have p1 : wr.cell? ⟨g1, o1 + k * 3 + 1, none⟩ = some (.int .i64 y.2.1) := hc1 k y 1 _ hx rfl
      have p2 : wr.cell? ⟨g1, o1 + k * 3 + 2, none⟩ = some (.int .i64 y.2.2) := hc1 k y 2 _ hx rfl
      have HX := hide hx
      have HLT := hide hlt
      have HG := hide hg
      have HB := hide hb
      obtain ⟨Ao, co, rfl, _⟩ := Sl.form ho
      have hwl : (withoutP (l.take k) nm).length ≤ 1000 := by
        refine Nat.le_trans (List.length_filter_le _ _) ?_
        rw [List.length_take]
        omega
      by_cases he : y.1 = nm
      · have q1 : (y.1 == nm) = true := by simpa using he
        have q2 : (y.1 != nm) = false := by simpa using he
        have HS := hide (show withoutP (l.take (k + 1)) nm = withoutP (l.take k) nm by rw [without_step hx, if_pos he])
        have HO := hide ho
        clear hc1 hv1 hx hk hlt ho hg hb hwl he
        go_wp2
        go_roundw
        case rel => exact ⟨k + 1, by go_num, HLT.out, by rw [HS.out]; exact HO.out, HG.out, HB.out⟩
        case measure => have := HLT.out; simp [intOf]; omega
      · have q1 : (y.1 == nm) = false := by simpa using he
        have q2 : (y.1 != nm) = true := by simpa using he
        have HS := hide (show withoutP (l.take (k + 1)) nm = withoutP (l.take k) nm ++ [y] by rw [without_step hx, if_neg he])
        have HO := hide (Sl.alloc ho (.cells (prC y).toArray 36))
        have hwl2 := hide hwl
        clear hc1 hv1 hx hk hlt ho hg hb hwl he
        go_wp2_with (at_builtin; refine wpList_append_sl rfl (.tmp 20) (.tmp 25) 32 rfl 36 i0 (.agg #[.int .i64 0, .int .i64 0, .int .i64 0]) 3 24 Try.underlying32 HI.out HZ.out HZ1.out HZ2.out rfl (.slice Ao (withoutP (l.take k) nm).length co) (withoutP (l.take k) nm).length (rows prC (withoutP (l.take k) nm)) rfl HO.out _ rfl 1 _ (rd_elem wr 36 3 (prC y) rfl) (prC_one y) ?b1 ?b2 ?_)
        case b1 => have := hwl2.out; unfold maxLen; omega
        case b2 => have := hwl2.out; omega
        intro v' w' hsl honly hv'
        have hf := fresh_put HB.out HG.out _ honly (by rw [World.size_alloc]; exact hv')
        have HF := hide hf
        have HN := hide (show PrS w' v' (withoutP (l.take (k + 1)) nm) by
          unfold PrS
          rw [HS.out, List.length_append, List.length_singleton, rows_append, rows_one]
          exact hsl)
        clear hsl honly hv' hf
        go_wp2
        go_roundw
        case rel => exact ⟨k + 1, by go_num, HLT.out, HN.out, HF.out.2, HF.out.1⟩
        case measure => have := HLT.out; simp [intOf]; omega
    · have z0 : decide (k < l.length) = false := by simpa using hlt
      have z1 : decide ((k : Int) < (l.length : Int)) = false := by simp; omega
      have z2 : ¬ (k : Int) < (l.length : Int) := by omega
      obtain rfl : k = l.length := by omega
      rw [List.take_length] at ho
      have HO := hide ho
      have HG := hide hg
      have HB := hide hb
      obtain ⟨Ao, co, rfl, _⟩ := Sl.form ho
      clear hk hlt ho hg hb
      go_wp2
      go_ret
      exact ⟨_, rfl, HO.out, HG.out, HB.out⟩
end
end Go.Proofs.Ytgiogmbopiblmaa
namespace Go.Proofs.Ytgiogmbopiblmaa
open Go.RowKit

theorem withP_stop {x : Pr} : ∀ (i : Nat) {l : List Pr}, (∀ y ∈ l.take i, y.1 < x.1) → (∀ y, l[i]? = some y → ¬ y.1 < x.1) → withP l x = l.take i ++ [x] ++ (match l[i]? with | some y => if y.1 = x.1 then l.drop (i + 1) else l.drop i | none => [])
  | i, [], _, _ => by simp [withP]
  | 0, y :: l, _, h => by
      have := h y rfl
      unfold withP
      rw [if_neg this]
      by_cases e : y.1 = x.1 <;> simp [e]
  | i + 1, y :: l, h1, h2 => by
      unfold withP
      rw [if_pos (h1 y (by simp)), withP_stop i (fun z hz => h1 z (by simp [hz])) (fun z hz => h2 z (by simpa using hz))]
      simp
theorem below_dN2 {w : World} (n : Nat) : Below w.heap.size w (w.drewN n) := ⟨rfl, rfl, rfl, Nat.le_refl _, fun _ _ => rfl⟩
theorem fresh_step {w w1 w2 : World} {v v2 : Value} (hB : Below w.heap.size w w1) (hO : ∀ g, v.ownBlock = some g → w.heap.size ≤ g) (ho : Only (fun g => v.ownBlock = some g) w1 w2) (hv : v2.ownBlock = v.ownBlock ∨ v2.ownBlock = some w1.heap.size) : Below w.heap.size w w2 ∧ ∀ g, v2.ownBlock = some g → w.heap.size ≤ g := by
  refine ⟨hB.trans (ho.below hB.size fun g hg => hO g hg), fun g hg => ?_⟩
  rcases hv with e | e
  · exact hO g (by rw [← e]; exact hg)
  · rw [e] at hg
    cases hg
    exact hB.size
/-- What the parts of with know of the world. -/
structure WkIn (w w' : World) (x : Pr) : Prop where
  bel : Below w.heap.size w w'
  box : Blk w' w.heap.size 36 #[.int .i64 x.1, .int .i64 x.2.1, .int .i64 x.2.2]
theorem WkIn.below {w w1 w2 : World} {x : Pr} (h : WkIn w w1 x) (hb : Below w1.heap.size w1 w2) : WkIn w w2 x := ⟨h.bel.trans (hb.mono h.bel.size), h.box.below hb h.box.lt⟩
set_option maxRecDepth 100000 in
set_option maxHeartbeats 16000000 in
theorem rwith_some {w : World} {l : List Pr} {g off n c : Nat} (x : Pr) (h : PrS w (.slice (some ⟨g, off, none⟩) n c) l) (hnl : n = l.length) (hnc : n ≤ c) (_hcm : c ≤ maxLen) (hl : l.length ≤ 1000) : Calls Try.prog 93 #[.slice (some ⟨g, off, none⟩) n c, .agg #[.int .i64 x.1, .int .i64 x.2.1, .int .i64 x.2.2]] w (LsRes w (withP l x)) := by
  have HP := hide h

  have hn2 : (n : Int) ≤ 1000 := by omega
  obtain ⟨i0, hi, hz0, hz1, hz2⟩ := info_parts info_pr
  have HI := hide hi
  have HZ := hide hz0
  have HZ1 := hide hz1
  have HZ2 := hide hz2
  have HN := hide hnl
  have HW0 := hide (⟨below_box w (.cells (prC x).toArray 36), Blk.new w _ _⟩ : WkIn w (w.alloc (.cells (prC x).toArray 36)) x)
  clear h hi hz0 hz1 hz2 hl hnl
  go_enter Try.func93, Try.ntmps93
  go_upto_block 0 with fail
  go_cut [5] (fun kv wx => ∃ k : Nat, kv = .int .i64 (k : Int) ∧ k ≤ n ∧ (∀ y ∈ l.take k, y.1 < x.1) ∧ (∀ y, l[k]? = some y → ¬ y.1 < x.1) ∧ WkIn w wx x)
  case first =>
    go_wp2
    go_loopw [5] (fun kv wr => ∃ k : Nat, kv = .int .i64 (k : Int) ∧ k ≤ n ∧ (∀ y ∈ l.take k, y.1 < x.1) ∧ WkIn w wr x) (fun kv _ => n - (intOf kv).toNat)
    case atStart => exact ⟨0, rfl, Nat.zero_le _, by simp, HW0.out⟩
    case round =>
      obtain ⟨k, rfl, hk, hlo, hw⟩ := hrel
      have HLO := hide hlo
      have HWK := hide hw
      have b0 : wr.cell? ⟨w.heap.size, 0, none⟩ = some (.int .i64 x.1) := hw.box.cell 0
      by_cases hlt : k < n
      · have z0 : decide (k < n) = true := by simpa using hlt
        have z1 : decide ((k : Int) < (n : Int)) = true := by simp; omega
        have z2 : (k : Int) < (n : Int) := by omega
        obtain ⟨y, hx⟩ : ∃ y, l[k]? = some y := ⟨_, List.getElem?_eq_getElem (by have := HN.out; omega)⟩
        obtain ⟨g', off', c', hv1, hc1⟩ := Rd.fld prC_len (Sl.rd (HP.out.below hw.bel)) (by have := HN.out; omega)
        cases hv1
        have p0 : wr.cell? ⟨g, off + k * 3, none⟩ = some (.int .i64 y.1) := hc1 k y 0 _ hx rfl
        have HX := hide hx
        have HLT := hide hlt
        clear hx hc1
        by_cases he : y.1 < x.1
        · have q1 : decide (y.1 < x.1) = true := by simpa using he
          have HE := hide he
          clear hk hlo hw hlt he
          go_upto_region 2 with fail
          go_region
          go_wp2
          go_roundw
          case rel => exact ⟨k + 1, by go_num, HLT.out, fun z hz => by
            rw [List.take_add_one, HX.out] at hz
            rcases List.mem_append.1 hz with hz | hz
            · exact HLO.out z hz
            · have : z = y := by simpa using hz
              exact this ▸ HE.out, HWK.out.below (Below.refl _ _).drew⟩
          case measure => have := HLT.out; simp [intOf]; omega
        · have q1 : decide (y.1 < x.1) = false := by simpa using he
          have HE := hide he
          have HK := hide hk
          clear hk hlo hw hlt he
          go_upto_region 2 with fail
          go_region
          go_wp2_with fail
          go_meet
          exact ⟨k, rfl, HK.out, HLO.out, fun z hz => by rw [HX.out] at hz; cases hz; exact HE.out, HWK.out.below (Below.refl _ _).drew⟩
      · have z0 : decide (k < n) = false := by simpa using hlt
        have z1 : decide ((k : Int) < (n : Int)) = false := by simp; omega
        have z2 : ¬ (k : Int) < (n : Int) := by omega
        have HK := hide hk
        have HLT := hide hlt
        clear hk hlo hw hlt
        go_upto_region 2 with fail
        go_region
        go_wp2_with fail
        go_meet
        exact ⟨k, rfl, HK.out, HLO.out, (by intro z hz; rw [List.getElem?_eq_none (by have := HN.out; have := HLT.out; omega)] at hz; cases hz), HWK.out.below (Below.refl _ _).drew⟩
  case rest =>
    obtain ⟨k, rfl, hk, hlo, hhi, hw⟩ := hcut
    have HST := hide (withP_stop k hlo hhi)
    have HW1 := hide hw
    have HK := hide hk
    have hk2 : (k : Int) ≤ (n : Int) := by omega
    have hkc : (k : Int) ≤ (c : Int) := by omega
    clear hlo hhi hw HW0
    obtain ⟨m, hm⟩ : ∃ m, n - k = m := ⟨_, rfl⟩
    have hm2 : (m : Int) ≤ 1000 := by omega
    have hbE : Below wc.heap.size wc (wc.alloc (.cells #[] 36)) := (Below.refl _ wc).alloc (Nat.le_refl _) _
    have he2 : Sl (wc.alloc (.cells #[] 36)) 36 3 (.slice (some ⟨wc.heap.size, 0, none⟩) 0 0) 0 [] := by simpa using Sl.new wc 36 3 #[] 0 0 (Nat.le_refl _) (by simp [maxLen]) (by simp)
    obtain ⟨Bk, hBk⟩ : ∃ Bk, (if c = k then some (⟨g, off, none⟩ : Addr) else some (⟨g, off + k * 3, none⟩ : Addr)) = Bk := ⟨_, rfl⟩
    have hr : Rd (wc.alloc (.cells #[] 36)) (.slice Bk (n - k) (c - k)) 3 (n - k) (rows prC (l.drop k)) := by
      have h1 := Sl.rd (HP.out.below (HW1.out.bel.trans (hbE.mono HW1.out.bel.size)))
      rw [← HN.out] at h1
      have h2 := h1.cutIf (j := k) HK.out hnc (c - k)
      rw [hBk, rows_drop prC_len] at h2
      exact h2
    have HHM := hide hm
    rw [hm] at hr
    go_wp2_with (at_builtin; go_loud (refine wpList_append_sl rfl (.tmp 23) (.tmp 26) 32 rfl 36 i0 (.agg #[.int .i64 0, .int .i64 0, .int .i64 0]) 3 24 Try.underlying32 HI.out HZ.out HZ1.out HZ2.out rfl _ 0 [] rfl he2 _ rfl m (rows prC (l.drop k)) hr (rows_cells fun z _ => prC_one z) ?b1 ?b2 ?_))
    case b1 => unfold maxLen; omega
    case b2 => omega
    intro v2 w2 hsl ho hv
    have HW2 := hide (show WkIn w w2 x from HW1.out.below (hbE.trans (ho.below (by simp) fun i hi => by cases hi; exact Nat.le_refl _))) 
    have HS2 := hide (show Sl w2 36 3 v2 m (rows prC (l.drop k)) by simpa using hsl)
    clear hsl ho hv he2 hr hbE HW1
    obtain ⟨A2, c2, rfl, h2c, h2m⟩ := HS2.out.form
    have hc2 : (c2 : Int) ≤ 9223372036854775807 := by unfold maxLen at h2m; omega
    have b0 : w2.cell? ⟨w.heap.size, 0, none⟩ = some (.int .i64 x.1) := HW2.out.box.cell 0
    by_cases hmp : 0 < m
    · have z0 : decide (0 < m) = true := by simpa using hmp
      have z1 : decide ((0 : Int) < (m : Int)) = true := by simp; omega
      have z2 : (0 : Int) < (m : Int) := by omega
      obtain ⟨y, hx⟩ : ∃ y, l[k]? = some y := ⟨_, List.getElem?_eq_getElem (by have := HN.out; have := HHM.out; omega)⟩
      have hd : l.drop k = y :: l.drop (k + 1) := by
        rw [List.drop_eq_getElem_cons (List.getElem?_eq_some_iff.1 hx).1, (List.getElem?_eq_some_iff.1 hx).2]
      obtain ⟨g2, o2, cc, hv2, _, _, hc, _, _⟩ := HS2.out.at_ hmp
      cases hv2
      have p0 : w2.cell? ⟨g2, o2, none⟩ = some (.int .i64 y.1) := hc 0 _ (by rw [hd, rows_cons]; rfl)
      have HX := hide hx
      have HD := hide hd
      have HMP := hide hmp
      have h1m : (1 : Int) ≤ (m : Int) := by omega
      have h1c : (1 : Int) ≤ (c2 : Int) := by omega
      have h1d : 1 ≤ c2 := by omega
      have h1e : 1 ≤ m := by omega
      clear hx hd hc hmp
      by_cases he : y.1 = x.1
      · have q1 : decide (y.1 = x.1) = true := by simpa using he
        have q2 : (y.1 == x.1) = true := by simpa using he
        have HE := hide he
        obtain ⟨Bv, hBv⟩ : ∃ Bv, (if c2 = 1 then some (⟨g2, o2, none⟩ : Addr) else some (⟨g2, o2 + 3, none⟩ : Addr)) = Bv := ⟨_, rfl⟩
        obtain ⟨m1, hm1⟩ : ∃ m1, m - 1 = m1 := ⟨_, rfl⟩
        have HQR := hide (fun (W : World) (hb : Below w2.heap.size w2 W) => (show Rd W (.slice Bv m1 (c2 - 1)) 3 m1 (rows prC (l.drop (k + 1))) from by
          have h1 := (Sl.rd HS2.out).belowN hb
          have h2 := h1.cutIf (j := 1) h1e (by omega) (c2 - 1)
          rw [Nat.one_mul, hBv, hm1, HD.out] at h2
          simpa [rows_cons, prC] using h2))
        have HQE := hide (show withP l x = l.take k ++ [x] ++ l.drop (k + 1) by rw [HST.out, HX.out]; simp [HE.out])
        have hm9 : (m1 : Int) ≤ 1000 := by omega
        have HQL := hide (show (l.drop (k + 1)).length = m1 by rw [List.length_drop]; have := HN.out; have := HHM.out; omega)
        clear he
        go_upto_region 5 with fail
        go_quiet (fail)
        go_upto_region 7 with fail
        have HQ3 := hide (below_dN2 (w := w2) nq)
        obtain ⟨w3, hw3⟩ : ∃ y : World, y = w2.drewN nq := ⟨_, rfl⟩
        rw [← hw3] at HQ3 ⊢
        clear hw3 b0 z0 z1 z2
        have HK3 := hide (HW2.out.below HQ3.out)
        have b0 : w3.cell? ⟨w.heap.size, 0, none⟩ = some (.int .i64 x.1) := HK3.out.box.cell 0
        have b1 : w3.cell? ⟨w.heap.size, 1, none⟩ = some (.int .i64 x.2.1) := HK3.out.box.cell 1
        have b2 : w3.cell? ⟨w.heap.size, 2, none⟩ = some (.int .i64 x.2.2) := HK3.out.box.cell 2
        have HCE := hide (HK3.out.below ((Below.refl w3.heap.size w3).alloc (Nat.le_refl _) (.cells #[] 36)))
        have e0 : (w3.alloc (.cells #[] 36)).cell? ⟨w.heap.size, 0, none⟩ = some (.int .i64 x.1) := HCE.out.box.cell 0
        have e1 : (w3.alloc (.cells #[] 36)).cell? ⟨w.heap.size, 1, none⟩ = some (.int .i64 x.2.1) := HCE.out.box.cell 1
        have e2 : (w3.alloc (.cells #[] 36)).cell? ⟨w.heap.size, 2, none⟩ = some (.int .i64 x.2.2) := HCE.out.box.cell 2
        have HB := hide (HQ3.out.drew)
        have HRK := hide (fun (W : World) (hb : Below w2.heap.size w2 W) => (show Rd W (.slice (some ⟨g, off, none⟩) k c) 3 k (rows prC (l.take k)) from by
          have h1 := Sl.rd (HP.out.below (HW2.out.bel.trans (hb.mono HW2.out.bel.size)))
          rw [← HN.out] at h1
          have h2 := h1.front HK.out c
          rw [rows_take prC_len] at h2
          exact h2))
        have HSA := hide (show Sl (w3.drew.alloc (.cells #[] 36)) 36 3 (.slice (some ⟨w3.heap.size, 0, none⟩) 0 0) 0 [] by simpa using Sl.new w3.drew 36 3 #[] 0 0 (Nat.le_refl _) (by simp [maxLen]) (by simp))
        have HSC := hide (HSA.out.alloc (.cells (prC x).toArray 36))
        have HSB := hide (show Sl ((w3.drew.alloc (.cells (prC x).toArray 36)).alloc (.cells #[] 36)) 36 3 (.slice (some ⟨w3.heap.size + 1, 0, none⟩) 0 0) 0 [] by simpa using Sl.new (w3.drew.alloc (.cells (prC x).toArray 36)) 36 3 #[] 0 0 (Nat.le_refl _) (by simp [maxLen]) (by simp))
        have hle := HQ3.out.size
        have HBA := hide (show Below w2.heap.size w2 (w3.drew.alloc (.cells #[] 36)) from HB.out.alloc HB.out.size _)
        have HBC := hide (show Below w2.heap.size w2 ((w3.drew.alloc (.cells #[] 36)).alloc (.cells (prC x).toArray 36)) from HBA.out.alloc HBA.out.size _)
        have HBB := hide (show Below w2.heap.size w2 ((w3.drew.alloc (.cells (prC x).toArray 36)).alloc (.cells #[] 36)) from (HB.out.alloc HB.out.size (.cells (prC x).toArray 36)).alloc (HB.out.alloc HB.out.size (.cells (prC x).toArray 36)).size _)
        have HXC := hide (show Rd ((w3.drew.alloc (.cells #[] 36)).alloc (.cells (prC x).toArray 36)) (.slice (some ⟨w3.heap.size + 1, 0, none⟩) 1 1) 3 1 (prC x) by simpa using rd_elem (w3.drew.alloc (.cells #[] 36)) 36 3 (prC x) rfl)
        have HXB := hide (show Rd ((w3.drew.alloc (.cells (prC x).toArray 36)).alloc (.cells #[] 36)) (.slice (some ⟨w3.heap.size, 0, none⟩) 1 1) 3 1 (prC x) from (rd_elem w3.drew 36 3 (prC x) rfl).only (Only.of_below (F := fun _ => False) ((Below.refl _ _).alloc (Nat.le_refl _) _)) fun _ _ f => f)
        clear hle
        go_region_law (first | (refine step_append_sl rfl (.tmp 42) (.tmp 45) 32 rfl 36 i0 (.agg #[.int .i64 0, .int .i64 0, .int .i64 0]) 3 24 Try.underlying32 HI.out HZ.out HZ1.out HZ2.out rfl (.slice (some ⟨w3.heap.size, 0, none⟩) 0 0) 0 [] rfl HSA.out (.slice (some ⟨g, off, none⟩) k c) rfl k (rows prC (l.take k)) (HRK.out _ HBA.out) (rows_cells fun z _ => prC_one z) (by unfold maxLen; omega) (by omega) ?_; intro v5 w5 hs5 ho5 hv5; have HS5 := hide hs5; have HF5 := hide (fresh_step HBA.out (by intro i hi; cases hi; exact HQ3.out.size) ho5 hv5); have HK5 := hide (HW2.out.below HF5.out.1); have f0 : w5.cell? ⟨w.heap.size, 0, none⟩ = some (.int .i64 x.1) := HK5.out.box.cell 0; have f1 : w5.cell? ⟨w.heap.size, 1, none⟩ = some (.int .i64 x.2.1) := HK5.out.box.cell 1; have f2 : w5.cell? ⟨w.heap.size, 2, none⟩ = some (.int .i64 x.2.2) := HK5.out.box.cell 2; clear hs5 ho5 hv5) | (refine step_append_sl rfl (.tmp 42) (.tmp 45) 32 rfl 36 i0 (.agg #[.int .i64 0, .int .i64 0, .int .i64 0]) 3 24 Try.underlying32 HI.out HZ.out HZ1.out HZ2.out rfl (.slice (some ⟨w3.heap.size, 0, none⟩) 0 0) 0 [] rfl HSC.out (.slice (some ⟨g, off, none⟩) k c) rfl k (rows prC (l.take k)) (HRK.out _ HBC.out) (rows_cells fun z _ => prC_one z) (by unfold maxLen; omega) (by omega) ?_; intro v5 w5 hs5 ho5 hv5; have HS5 := hide hs5; have HF5 := hide (fresh_step HBC.out (by intro i hi; cases hi; exact HQ3.out.size) ho5 hv5); have HX5 := hide (HXC.out.only ho5 (by intro i hi e; cases hi; exact absurd e (by simp [Value.ownBlock]))); have HK5 := hide (HW2.out.below HF5.out.1); have f0 : w5.cell? ⟨w.heap.size, 0, none⟩ = some (.int .i64 x.1) := HK5.out.box.cell 0; have f1 : w5.cell? ⟨w.heap.size, 1, none⟩ = some (.int .i64 x.2.1) := HK5.out.box.cell 1; have f2 : w5.cell? ⟨w.heap.size, 2, none⟩ = some (.int .i64 x.2.2) := HK5.out.box.cell 2; clear hs5 ho5 hv5) | (refine step_append_sl rfl (.tmp 42) (.tmp 45) 32 rfl 36 i0 (.agg #[.int .i64 0, .int .i64 0, .int .i64 0]) 3 24 Try.underlying32 HI.out HZ.out HZ1.out HZ2.out rfl (.slice (some ⟨w3.heap.size + 1, 0, none⟩) 0 0) 0 [] rfl HSB.out (.slice (some ⟨g, off, none⟩) k c) rfl k (rows prC (l.take k)) (HRK.out _ HBB.out) (rows_cells fun z _ => prC_one z) (by unfold maxLen; omega) (by omega) ?_; intro v5 w5 hs5 ho5 hv5; have HS5 := hide hs5; have HF5 := hide (fresh_step HBB.out (by intro i hi; cases hi; exact Nat.le_succ_of_le HQ3.out.size) ho5 hv5); have HX5 := hide (HXB.out.only ho5 (by intro i hi e; cases hi; exact absurd e (by simp [Value.ownBlock]))); have HK5 := hide (HW2.out.below HF5.out.1); have f0 : w5.cell? ⟨w.heap.size, 0, none⟩ = some (.int .i64 x.1) := HK5.out.box.cell 0; have f1 : w5.cell? ⟨w.heap.size, 1, none⟩ = some (.int .i64 x.2.1) := HK5.out.box.cell 1; have f2 : w5.cell? ⟨w.heap.size, 2, none⟩ = some (.int .i64 x.2.2) := HK5.out.box.cell 2; clear hs5 ho5 hv5) | (refine step_append_sl rfl (.tmp 46) (.tmp 48) 32 rfl 36 i0 (.agg #[.int .i64 0, .int .i64 0, .int .i64 0]) 3 24 Try.underlying32 HI.out HZ.out HZ1.out HZ2.out rfl v5 (0 + k) ([] ++ rows prC (l.take k)) rfl (HS5.out.alloc (.cells (prC x).toArray 36)) (.slice (some ⟨w5.heap.size, 0, none⟩) 1 1) rfl 1 (prC x) (rd_elem w5 36 3 (prC x) rfl) (prC_one x) (by unfold maxLen; omega) (by omega) ?_; intro v6 w6 hs6 ho6 hv6; have HS6 := hide hs6; have HF6 := hide (fresh_put HF5.out.1 HF5.out.2 (.cells (prC x).toArray 36) ho6 hv6); clear hs6 ho6 hv6) | (refine step_append_sl rfl (.tmp 46) (.tmp 48) 32 rfl 36 i0 (.agg #[.int .i64 0, .int .i64 0, .int .i64 0]) 3 24 Try.underlying32 HI.out HZ.out HZ1.out HZ2.out rfl v5 (0 + k) ([] ++ rows prC (l.take k)) rfl HS5.out (.slice (some ⟨w3.heap.size + 1, 0, none⟩) 1 1) rfl 1 (prC x) HX5.out (prC_one x) (by unfold maxLen; omega) (by omega) ?_; intro v6 w6 hs6 ho6 hv6; have HS6 := hide hs6; have HF6 := hide (fresh_step HF5.out.1 HF5.out.2 ho6 hv6); clear hs6 ho6 hv6) | (refine step_append_sl rfl (.tmp 46) (.tmp 48) 32 rfl 36 i0 (.agg #[.int .i64 0, .int .i64 0, .int .i64 0]) 3 24 Try.underlying32 HI.out HZ.out HZ1.out HZ2.out rfl v5 (0 + k) ([] ++ rows prC (l.take k)) rfl HS5.out (.slice (some ⟨w3.heap.size, 0, none⟩) 1 1) rfl 1 (prC x) HX5.out (prC_one x) (by unfold maxLen; omega) (by omega) ?_; intro v6 w6 hs6 ho6 hv6; have HS6 := hide hs6; have HF6 := hide (fresh_step HF5.out.1 HF5.out.2 ho6 hv6); clear hs6 ho6 hv6) | (refine step_append_sl rfl (.tmp 49) (.tmp 50) 32 rfl 36 i0 (.agg #[.int .i64 0, .int .i64 0, .int .i64 0]) 3 24 Try.underlying32 HI.out HZ.out HZ1.out HZ2.out rfl v6 (0 + k + 1) ([] ++ rows prC (l.take k) ++ prC x) rfl HS6.out (.slice Bv m1 (c2 - 1)) rfl m1 (rows prC (l.drop (k + 1))) (HQR.out w6 HF6.out.1) (rows_cells fun z _ => prC_one z) (by unfold maxLen; omega) (by omega) ?_; intro v7 w7 hs7 ho7 hv7; have HS7 := hide hs7; have HF7 := hide (fresh_step HF6.out.1 HF6.out.2 ho7 hv7); clear hs7 ho7 hv7))
        all_goals go_wp2
        all_goals
          go_ret
          refine ⟨v7, rfl, ?_, fun g hg => Nat.le_trans HW2.out.bel.size (HF7.out.2 g hg), HW2.out.bel.trans (HF7.out.1.mono HW2.out.bel.size)⟩
          have h7 := HS7.out
          unfold PrS
          have e : (l.take k ++ [x] ++ l.drop (k + 1)).length = 0 + k + 1 + m1 := by
            rw [List.length_append, List.length_append, List.length_take, List.length_singleton]
            have e1 := HQL.out
            have e2 := HK.out
            have e3 := HN.out
            omega
          rw [HQE.out, e, rows_append, rows_append, rows_one]
          rw [List.nil_append] at h7
          exact h7
      · have q1 : decide (y.1 = x.1) = false := by simpa using he
        have q2 : (y.1 == x.1) = false := by simpa using he
        have HE := hide he
        have HQR := hide (fun (W : World) (hb : Below w2.heap.size w2 W) => (show Rd W (.slice (some ⟨g2, o2, none⟩) m c2) 3 m (rows prC (l.drop k)) from (Sl.rd HS2.out).belowN hb))
        have HQE := hide (show withP l x = l.take k ++ [x] ++ l.drop k by rw [HST.out, HX.out]; simp [HE.out])
        have HQL := hide (show (l.drop k).length = m by rw [List.length_drop]; have := HN.out; have := HHM.out; omega)
        clear he
        go_upto_region 5 with fail
        go_quiet (fail)
        go_upto_region 7 with fail
        have HQ3 := hide (below_dN2 (w := w2) nq)
        obtain ⟨w3, hw3⟩ : ∃ y : World, y = w2.drewN nq := ⟨_, rfl⟩
        rw [← hw3] at HQ3 ⊢
        clear hw3 b0 z0 z1 z2
        have HK3 := hide (HW2.out.below HQ3.out)
        have b0 : w3.cell? ⟨w.heap.size, 0, none⟩ = some (.int .i64 x.1) := HK3.out.box.cell 0
        have b1 : w3.cell? ⟨w.heap.size, 1, none⟩ = some (.int .i64 x.2.1) := HK3.out.box.cell 1
        have b2 : w3.cell? ⟨w.heap.size, 2, none⟩ = some (.int .i64 x.2.2) := HK3.out.box.cell 2
        have HCE := hide (HK3.out.below ((Below.refl w3.heap.size w3).alloc (Nat.le_refl _) (.cells #[] 36)))
        have e0 : (w3.alloc (.cells #[] 36)).cell? ⟨w.heap.size, 0, none⟩ = some (.int .i64 x.1) := HCE.out.box.cell 0
        have e1 : (w3.alloc (.cells #[] 36)).cell? ⟨w.heap.size, 1, none⟩ = some (.int .i64 x.2.1) := HCE.out.box.cell 1
        have e2 : (w3.alloc (.cells #[] 36)).cell? ⟨w.heap.size, 2, none⟩ = some (.int .i64 x.2.2) := HCE.out.box.cell 2
        have HB := hide (HQ3.out.drew)
        have HRK := hide (fun (W : World) (hb : Below w2.heap.size w2 W) => (show Rd W (.slice (some ⟨g, off, none⟩) k c) 3 k (rows prC (l.take k)) from by
          have h1 := Sl.rd (HP.out.below (HW2.out.bel.trans (hb.mono HW2.out.bel.size)))
          rw [← HN.out] at h1
          have h2 := h1.front HK.out c
          rw [rows_take prC_len] at h2
          exact h2))
        have HSA := hide (show Sl (w3.drew.alloc (.cells #[] 36)) 36 3 (.slice (some ⟨w3.heap.size, 0, none⟩) 0 0) 0 [] by simpa using Sl.new w3.drew 36 3 #[] 0 0 (Nat.le_refl _) (by simp [maxLen]) (by simp))
        have HSC := hide (HSA.out.alloc (.cells (prC x).toArray 36))
        have HSB := hide (show Sl ((w3.drew.alloc (.cells (prC x).toArray 36)).alloc (.cells #[] 36)) 36 3 (.slice (some ⟨w3.heap.size + 1, 0, none⟩) 0 0) 0 [] by simpa using Sl.new (w3.drew.alloc (.cells (prC x).toArray 36)) 36 3 #[] 0 0 (Nat.le_refl _) (by simp [maxLen]) (by simp))
        have hle := HQ3.out.size
        have HBA := hide (show Below w2.heap.size w2 (w3.drew.alloc (.cells #[] 36)) from HB.out.alloc HB.out.size _)
        have HBC := hide (show Below w2.heap.size w2 ((w3.drew.alloc (.cells #[] 36)).alloc (.cells (prC x).toArray 36)) from HBA.out.alloc HBA.out.size _)
        have HBB := hide (show Below w2.heap.size w2 ((w3.drew.alloc (.cells (prC x).toArray 36)).alloc (.cells #[] 36)) from (HB.out.alloc HB.out.size (.cells (prC x).toArray 36)).alloc (HB.out.alloc HB.out.size (.cells (prC x).toArray 36)).size _)
        have HXC := hide (show Rd ((w3.drew.alloc (.cells #[] 36)).alloc (.cells (prC x).toArray 36)) (.slice (some ⟨w3.heap.size + 1, 0, none⟩) 1 1) 3 1 (prC x) by simpa using rd_elem (w3.drew.alloc (.cells #[] 36)) 36 3 (prC x) rfl)
        have HXB := hide (show Rd ((w3.drew.alloc (.cells (prC x).toArray 36)).alloc (.cells #[] 36)) (.slice (some ⟨w3.heap.size, 0, none⟩) 1 1) 3 1 (prC x) from (rd_elem w3.drew 36 3 (prC x) rfl).only (Only.of_below (F := fun _ => False) ((Below.refl _ _).alloc (Nat.le_refl _) _)) fun _ _ f => f)
        clear hle
        go_region_law (first | (refine step_append_sl rfl (.tmp 42) (.tmp 45) 32 rfl 36 i0 (.agg #[.int .i64 0, .int .i64 0, .int .i64 0]) 3 24 Try.underlying32 HI.out HZ.out HZ1.out HZ2.out rfl (.slice (some ⟨w3.heap.size, 0, none⟩) 0 0) 0 [] rfl HSA.out (.slice (some ⟨g, off, none⟩) k c) rfl k (rows prC (l.take k)) (HRK.out _ HBA.out) (rows_cells fun z _ => prC_one z) (by unfold maxLen; omega) (by omega) ?_; intro v5 w5 hs5 ho5 hv5; have HS5 := hide hs5; have HF5 := hide (fresh_step HBA.out (by intro i hi; cases hi; exact HQ3.out.size) ho5 hv5); have HK5 := hide (HW2.out.below HF5.out.1); have f0 : w5.cell? ⟨w.heap.size, 0, none⟩ = some (.int .i64 x.1) := HK5.out.box.cell 0; have f1 : w5.cell? ⟨w.heap.size, 1, none⟩ = some (.int .i64 x.2.1) := HK5.out.box.cell 1; have f2 : w5.cell? ⟨w.heap.size, 2, none⟩ = some (.int .i64 x.2.2) := HK5.out.box.cell 2; clear hs5 ho5 hv5) | (refine step_append_sl rfl (.tmp 42) (.tmp 45) 32 rfl 36 i0 (.agg #[.int .i64 0, .int .i64 0, .int .i64 0]) 3 24 Try.underlying32 HI.out HZ.out HZ1.out HZ2.out rfl (.slice (some ⟨w3.heap.size, 0, none⟩) 0 0) 0 [] rfl HSC.out (.slice (some ⟨g, off, none⟩) k c) rfl k (rows prC (l.take k)) (HRK.out _ HBC.out) (rows_cells fun z _ => prC_one z) (by unfold maxLen; omega) (by omega) ?_; intro v5 w5 hs5 ho5 hv5; have HS5 := hide hs5; have HF5 := hide (fresh_step HBC.out (by intro i hi; cases hi; exact HQ3.out.size) ho5 hv5); have HX5 := hide (HXC.out.only ho5 (by intro i hi e; cases hi; exact absurd e (by simp [Value.ownBlock]))); have HK5 := hide (HW2.out.below HF5.out.1); have f0 : w5.cell? ⟨w.heap.size, 0, none⟩ = some (.int .i64 x.1) := HK5.out.box.cell 0; have f1 : w5.cell? ⟨w.heap.size, 1, none⟩ = some (.int .i64 x.2.1) := HK5.out.box.cell 1; have f2 : w5.cell? ⟨w.heap.size, 2, none⟩ = some (.int .i64 x.2.2) := HK5.out.box.cell 2; clear hs5 ho5 hv5) | (refine step_append_sl rfl (.tmp 42) (.tmp 45) 32 rfl 36 i0 (.agg #[.int .i64 0, .int .i64 0, .int .i64 0]) 3 24 Try.underlying32 HI.out HZ.out HZ1.out HZ2.out rfl (.slice (some ⟨w3.heap.size + 1, 0, none⟩) 0 0) 0 [] rfl HSB.out (.slice (some ⟨g, off, none⟩) k c) rfl k (rows prC (l.take k)) (HRK.out _ HBB.out) (rows_cells fun z _ => prC_one z) (by unfold maxLen; omega) (by omega) ?_; intro v5 w5 hs5 ho5 hv5; have HS5 := hide hs5; have HF5 := hide (fresh_step HBB.out (by intro i hi; cases hi; exact Nat.le_succ_of_le HQ3.out.size) ho5 hv5); have HX5 := hide (HXB.out.only ho5 (by intro i hi e; cases hi; exact absurd e (by simp [Value.ownBlock]))); have HK5 := hide (HW2.out.below HF5.out.1); have f0 : w5.cell? ⟨w.heap.size, 0, none⟩ = some (.int .i64 x.1) := HK5.out.box.cell 0; have f1 : w5.cell? ⟨w.heap.size, 1, none⟩ = some (.int .i64 x.2.1) := HK5.out.box.cell 1; have f2 : w5.cell? ⟨w.heap.size, 2, none⟩ = some (.int .i64 x.2.2) := HK5.out.box.cell 2; clear hs5 ho5 hv5) | (refine step_append_sl rfl (.tmp 46) (.tmp 48) 32 rfl 36 i0 (.agg #[.int .i64 0, .int .i64 0, .int .i64 0]) 3 24 Try.underlying32 HI.out HZ.out HZ1.out HZ2.out rfl v5 (0 + k) ([] ++ rows prC (l.take k)) rfl (HS5.out.alloc (.cells (prC x).toArray 36)) (.slice (some ⟨w5.heap.size, 0, none⟩) 1 1) rfl 1 (prC x) (rd_elem w5 36 3 (prC x) rfl) (prC_one x) (by unfold maxLen; omega) (by omega) ?_; intro v6 w6 hs6 ho6 hv6; have HS6 := hide hs6; have HF6 := hide (fresh_put HF5.out.1 HF5.out.2 (.cells (prC x).toArray 36) ho6 hv6); clear hs6 ho6 hv6) | (refine step_append_sl rfl (.tmp 46) (.tmp 48) 32 rfl 36 i0 (.agg #[.int .i64 0, .int .i64 0, .int .i64 0]) 3 24 Try.underlying32 HI.out HZ.out HZ1.out HZ2.out rfl v5 (0 + k) ([] ++ rows prC (l.take k)) rfl HS5.out (.slice (some ⟨w3.heap.size + 1, 0, none⟩) 1 1) rfl 1 (prC x) HX5.out (prC_one x) (by unfold maxLen; omega) (by omega) ?_; intro v6 w6 hs6 ho6 hv6; have HS6 := hide hs6; have HF6 := hide (fresh_step HF5.out.1 HF5.out.2 ho6 hv6); clear hs6 ho6 hv6) | (refine step_append_sl rfl (.tmp 46) (.tmp 48) 32 rfl 36 i0 (.agg #[.int .i64 0, .int .i64 0, .int .i64 0]) 3 24 Try.underlying32 HI.out HZ.out HZ1.out HZ2.out rfl v5 (0 + k) ([] ++ rows prC (l.take k)) rfl HS5.out (.slice (some ⟨w3.heap.size, 0, none⟩) 1 1) rfl 1 (prC x) HX5.out (prC_one x) (by unfold maxLen; omega) (by omega) ?_; intro v6 w6 hs6 ho6 hv6; have HS6 := hide hs6; have HF6 := hide (fresh_step HF5.out.1 HF5.out.2 ho6 hv6); clear hs6 ho6 hv6) | (refine step_append_sl rfl (.tmp 49) (.tmp 50) 32 rfl 36 i0 (.agg #[.int .i64 0, .int .i64 0, .int .i64 0]) 3 24 Try.underlying32 HI.out HZ.out HZ1.out HZ2.out rfl v6 (0 + k + 1) ([] ++ rows prC (l.take k) ++ prC x) rfl HS6.out (.slice (some ⟨g2, o2, none⟩) m c2) rfl m (rows prC (l.drop k)) (HQR.out w6 HF6.out.1) (rows_cells fun z _ => prC_one z) (by unfold maxLen; omega) (by omega) ?_; intro v7 w7 hs7 ho7 hv7; have HS7 := hide hs7; have HF7 := hide (fresh_step HF6.out.1 HF6.out.2 ho7 hv7); clear hs7 ho7 hv7))
        all_goals go_wp2
        all_goals
          go_ret
          refine ⟨v7, rfl, ?_, fun g hg => Nat.le_trans HW2.out.bel.size (HF7.out.2 g hg), HW2.out.bel.trans (HF7.out.1.mono HW2.out.bel.size)⟩
          have h7 := HS7.out
          unfold PrS
          have e : (l.take k ++ [x] ++ l.drop k).length = 0 + k + 1 + m := by
            rw [List.length_append, List.length_append, List.length_take, List.length_singleton]
            have e1 := HQL.out
            have e2 := HK.out
            have e3 := HN.out
            omega
          rw [HQE.out, e, rows_append, rows_append, rows_one]
          rw [List.nil_append] at h7
          exact h7
    · have z0 : decide (0 < m) = false := by simpa using hmp
      have z1 : decide ((0 : Int) < (m : Int)) = false := by simp; omega
      have z2 : ¬ (0 : Int) < (m : Int) := by omega
      have HQR := hide (fun (W : World) (hb : Below w2.heap.size w2 W) => (show Rd W (.slice A2 m c2) 3 m (rows prC (l.drop k)) from (Sl.rd HS2.out).belowN hb))
      have HQL := hide (show (l.drop k).length = m by rw [List.length_drop]; have := HN.out; have := HHM.out; omega)
      have HQE := hide (show withP l x = l.take k ++ [x] ++ l.drop k by
        have e0 : l.drop k = [] := List.drop_eq_nil_of_le (by have := HN.out; have := HHM.out; omega)
        rw [HST.out, List.getElem?_eq_none (by have := HN.out; have := HHM.out; omega), e0])
      clear hmp
      go_upto_region 5 with fail
      go_quiet (fail)
      go_upto_region 7 with fail
      have HQ3 := hide (below_dN2 (w := w2) nq)
      obtain ⟨w3, hw3⟩ : ∃ y : World, y = w2.drewN nq := ⟨_, rfl⟩
      rw [← hw3] at HQ3 ⊢
      clear hw3 b0 z0 z1 z2
      have HK3 := hide (HW2.out.below HQ3.out)
      have b0 : w3.cell? ⟨w.heap.size, 0, none⟩ = some (.int .i64 x.1) := HK3.out.box.cell 0
      have b1 : w3.cell? ⟨w.heap.size, 1, none⟩ = some (.int .i64 x.2.1) := HK3.out.box.cell 1
      have b2 : w3.cell? ⟨w.heap.size, 2, none⟩ = some (.int .i64 x.2.2) := HK3.out.box.cell 2
      have HCE := hide (HK3.out.below ((Below.refl w3.heap.size w3).alloc (Nat.le_refl _) (.cells #[] 36)))
      have e0 : (w3.alloc (.cells #[] 36)).cell? ⟨w.heap.size, 0, none⟩ = some (.int .i64 x.1) := HCE.out.box.cell 0
      have e1 : (w3.alloc (.cells #[] 36)).cell? ⟨w.heap.size, 1, none⟩ = some (.int .i64 x.2.1) := HCE.out.box.cell 1
      have e2 : (w3.alloc (.cells #[] 36)).cell? ⟨w.heap.size, 2, none⟩ = some (.int .i64 x.2.2) := HCE.out.box.cell 2
      have HB := hide (HQ3.out.drew)
      have HRK := hide (fun (W : World) (hb : Below w2.heap.size w2 W) => (show Rd W (.slice (some ⟨g, off, none⟩) k c) 3 k (rows prC (l.take k)) from by
        have h1 := Sl.rd (HP.out.below (HW2.out.bel.trans (hb.mono HW2.out.bel.size)))
        rw [← HN.out] at h1
        have h2 := h1.front HK.out c
        rw [rows_take prC_len] at h2
        exact h2))
      have HSA := hide (show Sl (w3.drew.alloc (.cells #[] 36)) 36 3 (.slice (some ⟨w3.heap.size, 0, none⟩) 0 0) 0 [] by simpa using Sl.new w3.drew 36 3 #[] 0 0 (Nat.le_refl _) (by simp [maxLen]) (by simp))
      have HSC := hide (HSA.out.alloc (.cells (prC x).toArray 36))
      have HSB := hide (show Sl ((w3.drew.alloc (.cells (prC x).toArray 36)).alloc (.cells #[] 36)) 36 3 (.slice (some ⟨w3.heap.size + 1, 0, none⟩) 0 0) 0 [] by simpa using Sl.new (w3.drew.alloc (.cells (prC x).toArray 36)) 36 3 #[] 0 0 (Nat.le_refl _) (by simp [maxLen]) (by simp))
      have hle := HQ3.out.size
      have HBA := hide (show Below w2.heap.size w2 (w3.drew.alloc (.cells #[] 36)) from HB.out.alloc HB.out.size _)
      have HBC := hide (show Below w2.heap.size w2 ((w3.drew.alloc (.cells #[] 36)).alloc (.cells (prC x).toArray 36)) from HBA.out.alloc HBA.out.size _)
      have HBB := hide (show Below w2.heap.size w2 ((w3.drew.alloc (.cells (prC x).toArray 36)).alloc (.cells #[] 36)) from (HB.out.alloc HB.out.size (.cells (prC x).toArray 36)).alloc (HB.out.alloc HB.out.size (.cells (prC x).toArray 36)).size _)
      have HXC := hide (show Rd ((w3.drew.alloc (.cells #[] 36)).alloc (.cells (prC x).toArray 36)) (.slice (some ⟨w3.heap.size + 1, 0, none⟩) 1 1) 3 1 (prC x) by simpa using rd_elem (w3.drew.alloc (.cells #[] 36)) 36 3 (prC x) rfl)
      have HXB := hide (show Rd ((w3.drew.alloc (.cells (prC x).toArray 36)).alloc (.cells #[] 36)) (.slice (some ⟨w3.heap.size, 0, none⟩) 1 1) 3 1 (prC x) from (rd_elem w3.drew 36 3 (prC x) rfl).only (Only.of_below (F := fun _ => False) ((Below.refl _ _).alloc (Nat.le_refl _) _)) fun _ _ f => f)
      clear hle
      go_region_law (first | (refine step_append_sl rfl (.tmp 42) (.tmp 45) 32 rfl 36 i0 (.agg #[.int .i64 0, .int .i64 0, .int .i64 0]) 3 24 Try.underlying32 HI.out HZ.out HZ1.out HZ2.out rfl (.slice (some ⟨w3.heap.size, 0, none⟩) 0 0) 0 [] rfl HSA.out (.slice (some ⟨g, off, none⟩) k c) rfl k (rows prC (l.take k)) (HRK.out _ HBA.out) (rows_cells fun z _ => prC_one z) (by unfold maxLen; omega) (by omega) ?_; intro v5 w5 hs5 ho5 hv5; have HS5 := hide hs5; have HF5 := hide (fresh_step HBA.out (by intro i hi; cases hi; exact HQ3.out.size) ho5 hv5); have HK5 := hide (HW2.out.below HF5.out.1); have f0 : w5.cell? ⟨w.heap.size, 0, none⟩ = some (.int .i64 x.1) := HK5.out.box.cell 0; have f1 : w5.cell? ⟨w.heap.size, 1, none⟩ = some (.int .i64 x.2.1) := HK5.out.box.cell 1; have f2 : w5.cell? ⟨w.heap.size, 2, none⟩ = some (.int .i64 x.2.2) := HK5.out.box.cell 2; clear hs5 ho5 hv5) | (refine step_append_sl rfl (.tmp 42) (.tmp 45) 32 rfl 36 i0 (.agg #[.int .i64 0, .int .i64 0, .int .i64 0]) 3 24 Try.underlying32 HI.out HZ.out HZ1.out HZ2.out rfl (.slice (some ⟨w3.heap.size, 0, none⟩) 0 0) 0 [] rfl HSC.out (.slice (some ⟨g, off, none⟩) k c) rfl k (rows prC (l.take k)) (HRK.out _ HBC.out) (rows_cells fun z _ => prC_one z) (by unfold maxLen; omega) (by omega) ?_; intro v5 w5 hs5 ho5 hv5; have HS5 := hide hs5; have HF5 := hide (fresh_step HBC.out (by intro i hi; cases hi; exact HQ3.out.size) ho5 hv5); have HX5 := hide (HXC.out.only ho5 (by intro i hi e; cases hi; exact absurd e (by simp [Value.ownBlock]))); have HK5 := hide (HW2.out.below HF5.out.1); have f0 : w5.cell? ⟨w.heap.size, 0, none⟩ = some (.int .i64 x.1) := HK5.out.box.cell 0; have f1 : w5.cell? ⟨w.heap.size, 1, none⟩ = some (.int .i64 x.2.1) := HK5.out.box.cell 1; have f2 : w5.cell? ⟨w.heap.size, 2, none⟩ = some (.int .i64 x.2.2) := HK5.out.box.cell 2; clear hs5 ho5 hv5) | (refine step_append_sl rfl (.tmp 42) (.tmp 45) 32 rfl 36 i0 (.agg #[.int .i64 0, .int .i64 0, .int .i64 0]) 3 24 Try.underlying32 HI.out HZ.out HZ1.out HZ2.out rfl (.slice (some ⟨w3.heap.size + 1, 0, none⟩) 0 0) 0 [] rfl HSB.out (.slice (some ⟨g, off, none⟩) k c) rfl k (rows prC (l.take k)) (HRK.out _ HBB.out) (rows_cells fun z _ => prC_one z) (by unfold maxLen; omega) (by omega) ?_; intro v5 w5 hs5 ho5 hv5; have HS5 := hide hs5; have HF5 := hide (fresh_step HBB.out (by intro i hi; cases hi; exact Nat.le_succ_of_le HQ3.out.size) ho5 hv5); have HX5 := hide (HXB.out.only ho5 (by intro i hi e; cases hi; exact absurd e (by simp [Value.ownBlock]))); have HK5 := hide (HW2.out.below HF5.out.1); have f0 : w5.cell? ⟨w.heap.size, 0, none⟩ = some (.int .i64 x.1) := HK5.out.box.cell 0; have f1 : w5.cell? ⟨w.heap.size, 1, none⟩ = some (.int .i64 x.2.1) := HK5.out.box.cell 1; have f2 : w5.cell? ⟨w.heap.size, 2, none⟩ = some (.int .i64 x.2.2) := HK5.out.box.cell 2; clear hs5 ho5 hv5) | (refine step_append_sl rfl (.tmp 46) (.tmp 48) 32 rfl 36 i0 (.agg #[.int .i64 0, .int .i64 0, .int .i64 0]) 3 24 Try.underlying32 HI.out HZ.out HZ1.out HZ2.out rfl v5 (0 + k) ([] ++ rows prC (l.take k)) rfl (HS5.out.alloc (.cells (prC x).toArray 36)) (.slice (some ⟨w5.heap.size, 0, none⟩) 1 1) rfl 1 (prC x) (rd_elem w5 36 3 (prC x) rfl) (prC_one x) (by unfold maxLen; omega) (by omega) ?_; intro v6 w6 hs6 ho6 hv6; have HS6 := hide hs6; have HF6 := hide (fresh_put HF5.out.1 HF5.out.2 (.cells (prC x).toArray 36) ho6 hv6); clear hs6 ho6 hv6) | (refine step_append_sl rfl (.tmp 46) (.tmp 48) 32 rfl 36 i0 (.agg #[.int .i64 0, .int .i64 0, .int .i64 0]) 3 24 Try.underlying32 HI.out HZ.out HZ1.out HZ2.out rfl v5 (0 + k) ([] ++ rows prC (l.take k)) rfl HS5.out (.slice (some ⟨w3.heap.size + 1, 0, none⟩) 1 1) rfl 1 (prC x) HX5.out (prC_one x) (by unfold maxLen; omega) (by omega) ?_; intro v6 w6 hs6 ho6 hv6; have HS6 := hide hs6; have HF6 := hide (fresh_step HF5.out.1 HF5.out.2 ho6 hv6); clear hs6 ho6 hv6) | (refine step_append_sl rfl (.tmp 46) (.tmp 48) 32 rfl 36 i0 (.agg #[.int .i64 0, .int .i64 0, .int .i64 0]) 3 24 Try.underlying32 HI.out HZ.out HZ1.out HZ2.out rfl v5 (0 + k) ([] ++ rows prC (l.take k)) rfl HS5.out (.slice (some ⟨w3.heap.size, 0, none⟩) 1 1) rfl 1 (prC x) HX5.out (prC_one x) (by unfold maxLen; omega) (by omega) ?_; intro v6 w6 hs6 ho6 hv6; have HS6 := hide hs6; have HF6 := hide (fresh_step HF5.out.1 HF5.out.2 ho6 hv6); clear hs6 ho6 hv6) | (refine step_append_sl rfl (.tmp 49) (.tmp 50) 32 rfl 36 i0 (.agg #[.int .i64 0, .int .i64 0, .int .i64 0]) 3 24 Try.underlying32 HI.out HZ.out HZ1.out HZ2.out rfl v6 (0 + k + 1) ([] ++ rows prC (l.take k) ++ prC x) rfl HS6.out (.slice A2 m c2) rfl m (rows prC (l.drop k)) (HQR.out w6 HF6.out.1) (rows_cells fun z _ => prC_one z) (by unfold maxLen; omega) (by omega) ?_; intro v7 w7 hs7 ho7 hv7; have HS7 := hide hs7; have HF7 := hide (fresh_step HF6.out.1 HF6.out.2 ho7 hv7); clear hs7 ho7 hv7))
      all_goals go_wp2
      all_goals
        go_ret
        refine ⟨v7, rfl, ?_, fun g hg => Nat.le_trans HW2.out.bel.size (HF7.out.2 g hg), HW2.out.bel.trans (HF7.out.1.mono HW2.out.bel.size)⟩
        have h7 := HS7.out
        unfold PrS
        have e : (l.take k ++ [x] ++ l.drop k).length = 0 + k + 1 + m := by
          rw [List.length_append, List.length_append, List.length_take, List.length_singleton]
          have e1 := HQL.out
          have e2 := HK.out
          have e3 := HN.out
          omega
        rw [HQE.out, e, rows_append, rows_append, rows_one]
        rw [List.nil_append] at h7
        exact h7
set_option maxRecDepth 100000 in
set_option maxHeartbeats 16000000 in
theorem rwith_nil {w : World} (x : Pr) : Calls Try.prog 93 #[.slice none 0 0, .agg #[.int .i64 x.1, .int .i64 x.2.1, .int .i64 x.2.2]] w (LsRes w (withP [] x)) := by
  obtain ⟨i0, hi, hz0, hz1, hz2⟩ := info_parts info_pr
  have HI := hide hi
  have HZ := hide hz0
  have HZ1 := hide hz1
  have HZ2 := hide hz2
  have HW0 := hide (⟨below_box w (.cells (prC x).toArray 36), Blk.new w _ _⟩ : WkIn w (w.alloc (.cells (prC x).toArray 36)) x)
  clear hi hz0 hz1 hz2
  go_enter Try.func93, Try.ntmps93
  go_upto_block 0 with fail
  go_cut [5] (fun kv wx => kv = .int .i64 0 ∧ WkIn w wx x)
  case first =>
    go_wp2
    go_loopw [5] (fun kv wr => kv = .int .i64 0 ∧ WkIn w wr x) (fun _ _ => 0)
    case atStart => exact ⟨rfl, HW0.out⟩
    case round =>
      obtain ⟨rfl, hw⟩ := hrel
      have HWK := hide hw
      clear hw
      go_upto_region 2 with fail
      go_region
      go_wp2_with fail
      go_meet
      exact ⟨rfl, HWK.out.below (Below.refl _ _).drew⟩
  case rest =>
    obtain ⟨rfl, hw⟩ := hcut
    have HW1 := hide hw
    clear hw HW0
    have hbE : Below wc.heap.size wc (wc.alloc (.cells #[] 36)) := (Below.refl _ wc).alloc (Nat.le_refl _) _
    have he2 : Sl (wc.alloc (.cells #[] 36)) 36 3 (.slice (some ⟨wc.heap.size, 0, none⟩) 0 0) 0 [] := by simpa using Sl.new wc 36 3 #[] 0 0 (Nat.le_refl _) (by simp [maxLen]) (by simp)
    go_wp2_with (at_builtin; go_loud (refine wpList_append_sl rfl (.tmp 23) (.tmp 26) 32 rfl 36 i0 (.agg #[.int .i64 0, .int .i64 0, .int .i64 0]) 3 24 Try.underlying32 HI.out HZ.out HZ1.out HZ2.out rfl _ 0 [] rfl he2 _ rfl 0 [] (Rd.nil _ _) (fun u hu => by cases hu) ?b1 ?b2 ?_))
    case b1 => unfold maxLen; omega
    case b2 => omega
    intro v2 w2 hsl ho hv
    have HW2 := hide (show WkIn w w2 x from HW1.out.below (hbE.trans (ho.below (by simp) fun i hi => by cases hi; exact Nat.le_refl _)))
    have HS2 := hide (show Sl w2 36 3 v2 0 [] by simpa using hsl)
    clear hsl ho hv he2 hbE HW1
    obtain ⟨A2, c2, rfl, _, _⟩ := HS2.out.form
    have HQR := hide (fun (W : World) (hb : Below w2.heap.size w2 W) => (show Rd W (.slice A2 0 c2) 3 0 (rows prC ([] : List Pr)) from (Sl.rd HS2.out).belowN hb))
    go_upto_region 5 with fail
    go_quiet (fail)
    go_upto_region 7 with fail
    have HQ3 := hide (below_dN2 (w := w2) nq)
    obtain ⟨w3, hw3⟩ : ∃ y : World, y = w2.drewN nq := ⟨_, rfl⟩
    rw [← hw3] at HQ3 ⊢
    clear hw3
    have HK3 := hide (HW2.out.below HQ3.out)
    have b0 : w3.cell? ⟨w.heap.size, 0, none⟩ = some (.int .i64 x.1) := HK3.out.box.cell 0
    have b1 : w3.cell? ⟨w.heap.size, 1, none⟩ = some (.int .i64 x.2.1) := HK3.out.box.cell 1
    have b2 : w3.cell? ⟨w.heap.size, 2, none⟩ = some (.int .i64 x.2.2) := HK3.out.box.cell 2
    have HCE := hide (HK3.out.below ((Below.refl w3.heap.size w3).alloc (Nat.le_refl _) (.cells #[] 36)))
    have e0 : (w3.alloc (.cells #[] 36)).cell? ⟨w.heap.size, 0, none⟩ = some (.int .i64 x.1) := HCE.out.box.cell 0
    have e1 : (w3.alloc (.cells #[] 36)).cell? ⟨w.heap.size, 1, none⟩ = some (.int .i64 x.2.1) := HCE.out.box.cell 1
    have e2 : (w3.alloc (.cells #[] 36)).cell? ⟨w.heap.size, 2, none⟩ = some (.int .i64 x.2.2) := HCE.out.box.cell 2
    have HB := hide (HQ3.out.drew)
    have HSA := hide (show Sl (w3.drew.alloc (.cells #[] 36)) 36 3 (.slice (some ⟨w3.heap.size, 0, none⟩) 0 0) 0 [] by simpa using Sl.new w3.drew 36 3 #[] 0 0 (Nat.le_refl _) (by simp [maxLen]) (by simp))
    have HSC := hide (HSA.out.alloc (.cells (prC x).toArray 36))
    have HSB := hide (show Sl ((w3.drew.alloc (.cells (prC x).toArray 36)).alloc (.cells #[] 36)) 36 3 (.slice (some ⟨w3.heap.size + 1, 0, none⟩) 0 0) 0 [] by simpa using Sl.new (w3.drew.alloc (.cells (prC x).toArray 36)) 36 3 #[] 0 0 (Nat.le_refl _) (by simp [maxLen]) (by simp))
    have hle := HQ3.out.size
    have HBA := hide (show Below w2.heap.size w2 (w3.drew.alloc (.cells #[] 36)) from HB.out.alloc HB.out.size _)
    have HBC := hide (show Below w2.heap.size w2 ((w3.drew.alloc (.cells #[] 36)).alloc (.cells (prC x).toArray 36)) from HBA.out.alloc HBA.out.size _)
    have HBB := hide (show Below w2.heap.size w2 ((w3.drew.alloc (.cells (prC x).toArray 36)).alloc (.cells #[] 36)) from (HB.out.alloc HB.out.size (.cells (prC x).toArray 36)).alloc (HB.out.alloc HB.out.size (.cells (prC x).toArray 36)).size _)
    have HXC := hide (show Rd ((w3.drew.alloc (.cells #[] 36)).alloc (.cells (prC x).toArray 36)) (.slice (some ⟨w3.heap.size + 1, 0, none⟩) 1 1) 3 1 (prC x) by simpa using rd_elem (w3.drew.alloc (.cells #[] 36)) 36 3 (prC x) rfl)
    have HXB := hide (show Rd ((w3.drew.alloc (.cells (prC x).toArray 36)).alloc (.cells #[] 36)) (.slice (some ⟨w3.heap.size, 0, none⟩) 1 1) 3 1 (prC x) from (rd_elem w3.drew 36 3 (prC x) rfl).only (Only.of_below (F := fun _ => False) ((Below.refl _ _).alloc (Nat.le_refl _) _)) fun _ _ f => f)
    clear hle
    go_region_law (first | (refine step_append_sl rfl (.tmp 42) (.tmp 45) 32 rfl 36 i0 (.agg #[.int .i64 0, .int .i64 0, .int .i64 0]) 3 24 Try.underlying32 HI.out HZ.out HZ1.out HZ2.out rfl (.slice (some ⟨w3.heap.size, 0, none⟩) 0 0) 0 [] rfl HSA.out (.slice none 0 0) rfl 0 [] (Rd.nil _ _) (fun u hu => by cases hu) (by unfold maxLen; omega) (by omega) ?_; intro v5 w5 hs5 ho5 hv5; have HS5 := hide hs5; have HF5 := hide (fresh_step HBA.out (by intro i hi; cases hi; exact HQ3.out.size) ho5 hv5); have HK5 := hide (HW2.out.below HF5.out.1); have f0 : w5.cell? ⟨w.heap.size, 0, none⟩ = some (.int .i64 x.1) := HK5.out.box.cell 0; have f1 : w5.cell? ⟨w.heap.size, 1, none⟩ = some (.int .i64 x.2.1) := HK5.out.box.cell 1; have f2 : w5.cell? ⟨w.heap.size, 2, none⟩ = some (.int .i64 x.2.2) := HK5.out.box.cell 2; clear hs5 ho5 hv5) | (refine step_append_sl rfl (.tmp 42) (.tmp 45) 32 rfl 36 i0 (.agg #[.int .i64 0, .int .i64 0, .int .i64 0]) 3 24 Try.underlying32 HI.out HZ.out HZ1.out HZ2.out rfl (.slice (some ⟨w3.heap.size, 0, none⟩) 0 0) 0 [] rfl HSC.out (.slice none 0 0) rfl 0 [] (Rd.nil _ _) (fun u hu => by cases hu) (by unfold maxLen; omega) (by omega) ?_; intro v5 w5 hs5 ho5 hv5; have HS5 := hide hs5; have HF5 := hide (fresh_step HBC.out (by intro i hi; cases hi; exact HQ3.out.size) ho5 hv5); have HX5 := hide (HXC.out.only ho5 (by intro i hi e; cases hi; exact absurd e (by simp [Value.ownBlock]))); have HK5 := hide (HW2.out.below HF5.out.1); have f0 : w5.cell? ⟨w.heap.size, 0, none⟩ = some (.int .i64 x.1) := HK5.out.box.cell 0; have f1 : w5.cell? ⟨w.heap.size, 1, none⟩ = some (.int .i64 x.2.1) := HK5.out.box.cell 1; have f2 : w5.cell? ⟨w.heap.size, 2, none⟩ = some (.int .i64 x.2.2) := HK5.out.box.cell 2; clear hs5 ho5 hv5) | (refine step_append_sl rfl (.tmp 42) (.tmp 45) 32 rfl 36 i0 (.agg #[.int .i64 0, .int .i64 0, .int .i64 0]) 3 24 Try.underlying32 HI.out HZ.out HZ1.out HZ2.out rfl (.slice (some ⟨w3.heap.size + 1, 0, none⟩) 0 0) 0 [] rfl HSB.out (.slice none 0 0) rfl 0 [] (Rd.nil _ _) (fun u hu => by cases hu) (by unfold maxLen; omega) (by omega) ?_; intro v5 w5 hs5 ho5 hv5; have HS5 := hide hs5; have HF5 := hide (fresh_step HBB.out (by intro i hi; cases hi; exact Nat.le_succ_of_le HQ3.out.size) ho5 hv5); have HX5 := hide (HXB.out.only ho5 (by intro i hi e; cases hi; exact absurd e (by simp [Value.ownBlock]))); have HK5 := hide (HW2.out.below HF5.out.1); have f0 : w5.cell? ⟨w.heap.size, 0, none⟩ = some (.int .i64 x.1) := HK5.out.box.cell 0; have f1 : w5.cell? ⟨w.heap.size, 1, none⟩ = some (.int .i64 x.2.1) := HK5.out.box.cell 1; have f2 : w5.cell? ⟨w.heap.size, 2, none⟩ = some (.int .i64 x.2.2) := HK5.out.box.cell 2; clear hs5 ho5 hv5) | (refine step_append_sl rfl (.tmp 46) (.tmp 48) 32 rfl 36 i0 (.agg #[.int .i64 0, .int .i64 0, .int .i64 0]) 3 24 Try.underlying32 HI.out HZ.out HZ1.out HZ2.out rfl v5 (0 + 0) ([] ++ []) rfl (HS5.out.alloc (.cells (prC x).toArray 36)) (.slice (some ⟨w5.heap.size, 0, none⟩) 1 1) rfl 1 (prC x) (rd_elem w5 36 3 (prC x) rfl) (prC_one x) (by unfold maxLen; omega) (by omega) ?_; intro v6 w6 hs6 ho6 hv6; have HS6 := hide hs6; have HF6 := hide (fresh_put HF5.out.1 HF5.out.2 (.cells (prC x).toArray 36) ho6 hv6); clear hs6 ho6 hv6) | (refine step_append_sl rfl (.tmp 46) (.tmp 48) 32 rfl 36 i0 (.agg #[.int .i64 0, .int .i64 0, .int .i64 0]) 3 24 Try.underlying32 HI.out HZ.out HZ1.out HZ2.out rfl v5 (0 + 0) ([] ++ []) rfl HS5.out (.slice (some ⟨w3.heap.size + 1, 0, none⟩) 1 1) rfl 1 (prC x) HX5.out (prC_one x) (by unfold maxLen; omega) (by omega) ?_; intro v6 w6 hs6 ho6 hv6; have HS6 := hide hs6; have HF6 := hide (fresh_step HF5.out.1 HF5.out.2 ho6 hv6); clear hs6 ho6 hv6) | (refine step_append_sl rfl (.tmp 46) (.tmp 48) 32 rfl 36 i0 (.agg #[.int .i64 0, .int .i64 0, .int .i64 0]) 3 24 Try.underlying32 HI.out HZ.out HZ1.out HZ2.out rfl v5 (0 + 0) ([] ++ []) rfl HS5.out (.slice (some ⟨w3.heap.size, 0, none⟩) 1 1) rfl 1 (prC x) HX5.out (prC_one x) (by unfold maxLen; omega) (by omega) ?_; intro v6 w6 hs6 ho6 hv6; have HS6 := hide hs6; have HF6 := hide (fresh_step HF5.out.1 HF5.out.2 ho6 hv6); clear hs6 ho6 hv6) | (refine step_append_sl rfl (.tmp 49) (.tmp 50) 32 rfl 36 i0 (.agg #[.int .i64 0, .int .i64 0, .int .i64 0]) 3 24 Try.underlying32 HI.out HZ.out HZ1.out HZ2.out rfl v6 (0 + 0 + 1) ([] ++ [] ++ prC x) rfl HS6.out (.slice A2 0 c2) rfl 0 (rows prC (([] : List Pr))) (HQR.out w6 HF6.out.1) (fun u hu => by cases hu) (by unfold maxLen; omega) (by omega) ?_; intro v7 w7 hs7 ho7 hv7; have HS7 := hide hs7; have HF7 := hide (fresh_step HF6.out.1 HF6.out.2 ho7 hv7); clear hs7 ho7 hv7))
    all_goals go_wp2
    all_goals
      go_ret
      refine ⟨v7, rfl, ?_, fun g hg => Nat.le_trans HW2.out.bel.size (HF7.out.2 g hg), HW2.out.bel.trans (HF7.out.1.mono HW2.out.bel.size)⟩
      have h7 := HS7.out
      unfold PrS
      simpa [withP, rows, prC] using h7
theorem rwith_any {w : World} {l : List Pr} (v : Value) (x : Pr) (h : PrS w v l) (hl : l.length ≤ 1000) : Calls Try.prog 93 #[v, .agg #[.int .i64 x.1, .int .i64 x.2.1, .int .i64 x.2.2]] w (LsRes w (withP l x)) := by
  rcases h.2 with ⟨rfl, hn⟩ | ⟨g, off, c, cs, rfl, _, hnc, hcm, _⟩
  · obtain rfl : l = [] := List.eq_nil_of_length_eq_zero hn
    exact rwith_nil x
  · exact rwith_some x h rfl hnc hcm hl
end Go.Proofs.Ytgiogmbopiblmaa
