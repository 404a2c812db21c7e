/- A set of buffers: Other. No condition but those written. -/
import Derived.Test.YtnbhejbpofjamaaDoorBfk
namespace Go.Proofs.YtnbhejbpofjamaaDoor
open Go.RowKit

/-- Where the first number lies that is not c. -/
def FirstNe (l : List Nat) (c : Nat) (i : Int) : Prop := (i = -1 ∧ ∀ y ∈ l, y = c) ∨ ∃ (k : Nat) (x : Nat), i = (k : Int) ∧ l[k]? = some x ∧ x ≠ c ∧ ∀ y ∈ l.take k, y = c
def othS (s : Bst) : Nat := (s.order.find? fun k => decide (k ≠ s.cur)).getD s.cur
theorem othS_miss {s : Bst} (h : ∀ y ∈ s.order, y = s.cur) : othS s = s.cur := by
  unfold othS
  rw [List.find?_eq_none.2 (fun x hx => by simp [h x hx])]
  rfl
theorem othS_hit {s : Bst} {k x : Nat} (h : s.order[k]? = some x) (hx : x ≠ s.cur) (h1 : ∀ y ∈ s.order.take k, y = s.cur) : othS s = x := by
  have e : s.order = s.order.take k ++ x :: s.order.drop (k + 1) := by
    obtain ⟨h2, h3⟩ := List.getElem?_eq_some_iff.1 h
    conv => lhs; rw [← List.take_append_drop k s.order]
    rw [List.drop_eq_getElem_cons h2, h3]
  unfold othS
  rw [e, List.find?_append, List.find?_eq_none.2 (fun y hy => by simp [h1 y hy])]
  simp [hx]
section
variable {W w w' : World} {b : Bb} {s : Bst} {R : Heap}
theorem other1_any (x cu pb sb : Nat) (w : World) (h0 : w.cell? ⟨pb, 0, none⟩ = some (.pointer (some ⟨sb, 0, none⟩))) (h2 : w.cell? ⟨sb, 2, none⟩ = some (.int .i64 (cu : Int))) :
    Calls Tryd.prog 32 #[.int .i64 (x : Int), .pointer (some ⟨pb, 0, none⟩)] w fun e w' => e = .returned (.bool (decide (x ≠ cu))) ∧ Below w.heap.size w w' := by
  by_cases hx : x = cu
  · have z1 : ((x : Int) != (cu : Int)) = false := by simp [hx]
    go_enter Tryd.func32, Tryd.ntmps32
    go_wp2
    go_ret
    exact ⟨ret_bool (by simp [hx]), Below.refl _ _⟩
  · have z1 : ((x : Int) != (cu : Int)) = true := by simp; omega
    go_enter Tryd.func32, Tryd.ntmps32
    go_wp2
    go_ret
    exact ⟨ret_bool (by simp [hx]), Below.refl _ _⟩
set_option maxRecDepth 100000 in
set_option maxHeartbeats 4000000 in
theorem idxf_any (l : List Nat) (v : Value) (w : World) (cu pb sb : Nat) (h : IntSl w v l) (h0 : w.cell? ⟨pb, 0, none⟩ = some (.pointer (some ⟨sb, 0, none⟩))) (h2 : w.cell? ⟨sb, 2, none⟩ = some (.int .i64 (cu : Int))) (hl : l.length ≤ 1000000) :
    Calls Tryd.prog 31 #[v, .func (.func 32) #[] #[.pointer (some ⟨pb, 0, none⟩)]] w fun e w' => ∃ i : Int, e = .returned (.int .i64 i) ∧ FirstNe l cu i ∧ Below w.heap.size w w' := by
  obtain ⟨A, c, rfl, hx1⟩ := Sl.form h
  clear hx1
  obtain ⟨N, hn0⟩ : ∃ N, N = l.length := ⟨_, rfl⟩
  have H := hide (show Rd w (.slice A l.length c) 1 l.length (ints l) from Sl.rd h)
  rw [← hn0] at H ⊢
  have hl2 : (N : Int) ≤ 1000000 := by omega
  have HN0 := hide hn0
  have HH0 := hide h0
  have HH2 := hide h2
  clear h hn0 hl h0 h2
  go_enter Tryd.func31, Tryd.ntmps31
  go_wp2
  go_loopw [8] (fun iv wr => ∃ i : Nat, iv = .int .i64 (i : Int) ∧ i ≤ N ∧ (∀ y ∈ l.take i, y = cu) ∧ Below w.heap.size w wr) (fun iv _ => N - (intOf iv).toNat)
  case atStart => exact ⟨0, rfl, Nat.zero_le _, by simp, Below.refl _ _⟩
  case round =>
    obtain ⟨i, rfl, hin, ha, hb⟩ := hrel
    have HA := hide ha
    have HI := hide hin
    have HB := hide hb
    by_cases hij : i < N
    · have z1 : decide ((i : Int) < (N : Int)) = true := by simp; omega
      have z2 : (i : Int) < (N : Int) := by omega
      have z3 : decide (i < N) = true := by simpa using hij
      obtain ⟨x, hx⟩ : ∃ x, l[i]? = some x := ⟨_, List.getElem?_eq_getElem (by rw [← HN0.out]; omega)⟩
      obtain ⟨g, off, rfl, hc⟩ := rd_cells H.out (by omega)
      have c0 := hc wr hb i _ (ints_at hx)
      have HX := hide hx
      have HLT := hide hij
      have HC := hide (other1_any x cu pb sb wr (cell_keep HH0.out hb) (cell_keep HH2.out hb))
      clear hin ha hb hij hx hc
      by_cases he : x = cu
      · rw [decide_eq_false (by simpa using he)] at HC
        have HE := hide he
        clear he
        go_wp2_with (go_at_call 32; (with_reducible refine Calls.mono HC.out ?_); rintro r w2 ⟨rfl, hb2⟩; have HB2 := hide (HB.out.trans (hb2.mono HB.out.size)); clear hb2)
        go_roundw
        case rel => exact ⟨i + 1, by go_num, HLT.out, fun y hy => by
          rw [List.take_add_one, HX.out] at hy
          rcases List.mem_append.1 hy with hy | hy
          · exact HA.out y hy
          · have : y = x := by simpa using hy
            exact this ▸ HE.out, HB2.out⟩
        case measure => have := HLT.out; simp [intOf]; omega
      · rw [decide_eq_true (by simpa using he)] at HC
        have HE := hide he
        clear he
        go_wp2_with (go_at_call 32; (with_reducible refine Calls.mono HC.out ?_); rintro r w2 ⟨rfl, hb2⟩; have HB2 := hide (HB.out.trans (hb2.mono HB.out.size)); clear hb2)
        go_ret
        exact ⟨_, rfl, .inr ⟨i, x, rfl, HX.out, HE.out, HA.out⟩, HB2.out⟩
    · obtain rfl : i = N := by omega
      have z1 : decide ((i : Int) < (i : Int)) = false := by simp
      have HG := hide (show FirstNe l cu (-1) from .inl ⟨rfl, by
        have e := HA.out
        rw [List.take_of_length_le (by rw [HN0.out]; exact Nat.le_refl _)] at e
        exact e⟩)
      clear hin ha hb hij
      go_wp2
      go_ret
      exact ⟨_, rfl, HG.out, HB.out⟩
set_option maxRecDepth 100000 in
set_option maxHeartbeats 2000000 in
theorem other_any (h : BAt W w b s R) (hl : s.order.length ≤ 1000000) : Calls Tryd.prog 21 #[.pointer (some ⟨b.sb, 0, none⟩)] w fun e w' => e = .returned (.int .i64 (othS s : Int)) ∧ Below w.heap.size w w' := by
  have h1 := h.skip (.cells #[.pointer (some ⟨b.sb, 0, none⟩)] 23)
  have hbx := (Blk.new w 23 #[.pointer (some ⟨b.sb, 0, none⟩)])
  have k0 : (w.alloc (.cells #[.pointer (some ⟨b.sb, 0, none⟩)] 23)).cell? ⟨w.heap.size, 0, none⟩ = some (.pointer (some ⟨b.sb, 0, none⟩)) := (hbx.cell 0).trans rfl
  have HN := hide (bnone_any h1)
  have HB := hide (below_box w (.cells #[.pointer (some ⟨b.sb, 0, none⟩)] 23))
  have d1 := h1.c1
  have HC2 := hide h1.c2
  have HIX := hide (idxf_any s.order b.ov _ s.cur w.heap.size b.sb h1.sl k0 h1.c2 hl)
  have H1 := hide h1
  have HK0 := hide k0
  have HL := hide hl
  clear h h1 hbx hl
  obtain ⟨A, c, hov, _, _⟩ := H1.out.sl.form
  rw [hov] at d1 HIX
  obtain ⟨nl, hnl⟩ : ∃ nl, nl = s.order.length := ⟨_, rfl⟩
  rw [← hnl] at d1 HIX
  have HNL := hide hnl
  have HOV := hide hov
  clear hov hnl
  go_enter Tryd.func21, Tryd.ntmps21
  go_wp2_with (go_at_call 24; (with_reducible refine Calls.mono HN.out ?_); rintro r w2 ⟨rfl, rfl⟩)
  refine (Calls.mono HIX.out) ?_
  rintro e w2 ⟨i, rfl, hi, b2⟩
  have HB2 := hide b2
  have m0 := cell_keep HK0.out b2
  have m1 := cell_keep d1 b2
  have m2 := cell_keep HC2.out b2
  rcases hi with ⟨rfl, hi⟩ | ⟨k, x, rfl, hx, hxn, hi⟩
  · have HE := hide (othS_miss hi)
    clear hi b2 k0 d1 HIX HN
    go_wp2
    go_ret
    exact ⟨by rw [HE.out]; rfl, HB.out.trans (HB2.out.mono HB.out.size)⟩
  · have HE := hide (othS_hit hx hxn hi)
    have hlt := (List.getElem?_eq_some_iff.1 hx).1
    have hrd := H1.out.sl.rd
    rw [HOV.out] at hrd
    obtain ⟨g, off, hA, hc⟩ := rd_cells hrd (by omega)
    subst hA
    have m3 := hc w2 b2 k _ (ints_at hx)
    have z1 : (0 : Int) ≤ (k : Int) := by omega
    have z2 : decide ((0 : Int) ≤ (k : Int)) = true := by simp
    have z3 : (k : Int) < (nl : Int) := by rw [HNL.out]; omega
    have z4 : k < nl := by omega
    clear hi b2 k0 d1 HIX HN hlt hrd hc hx hxn
    go_wp2
    go_ret
    exact ⟨by rw [HE.out]; rfl, HB.out.trans (HB2.out.mono HB.out.size)⟩
end
end Go.Proofs.YtnbhejbpofjamaaDoor
