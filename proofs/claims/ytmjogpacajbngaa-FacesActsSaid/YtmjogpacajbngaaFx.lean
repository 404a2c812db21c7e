/- FacesKnown: the chapter's examples. No condition but those written. -/
import Derived.Test.YtmjogpacajbngaaFs
import Derived.Test.YtmjogpacajbngaaFn
import Derived.Test.YtmjogpacajbngaaFo
import Derived.Test.YtmjogpacajbngaaFy
namespace Go.Proofs.Ytmjogpacajbngaa
open Go.RowKit

abbrev sNone : ByteArray := ⟨#[110, 111, 110, 101]⟩
abbrev sNothing : ByteArray := ⟨#[110, 111, 116, 104, 105, 110, 103]⟩
abbrev sX : ByteArray := ⟨#[120]⟩
def D5 : Fm := [(dflt, aDef), (sWarn, aWarn), (sCalm, aCalm)]
def D6 : Fm := [(dflt, aDef), (sCalm, aCalm)]
theorem fullA_no {D : Fm} {s : ByteArray} (h : (look D s).isSome = false) : fullA D s = attZero := by
  unfold fullA
  rw [h, if_neg (by decide)]
theorem over_k (w : World) : Calls Try.prog 11 #[(⟨3, 0, 0, 0, 0, ⟨#[]⟩⟩ : Att).val, (⟨4, 5, 0, 0, 0, ⟨#[]⟩⟩ : Att).val] w fun e w' => e = .returned (⟨3, 5, 0, 0, 0, ⟨#[]⟩⟩ : Att).val ∧ Below w.heap.size w w' := over_any _ _ w
theorem look_k (w : World) : Calls Try.prog 13 #[(⟨257, 5, 2, 1, 0, ⟨#[]⟩⟩ : Att).val] w fun e w' => e = .returned (.agg #[.int .i64 0, .int .i64 5, .bool false, .bool true, .bool false]) ∧ Below w.heap.size w w' := look_any _ w
theorem full_k {w : World} {fb mb : Nat} (h : FaIn w fb mb D4) : Calls Try.prog 26 #[.pointer (some ⟨fb, 0, none⟩), .string sLoud] w fun e w' => e = .returned (.tuple #[(⟨2, 0, 1, 0, 1, ⟨#[]⟩⟩ : Att).val, .int .i64 0]) ∧ Below w.heap.size w w' := by
  have e1 : fullA D4 sLoud = ⟨2, 0, 1, 0, 1, ⟨#[]⟩⟩ := by
    rw [full_at ch_l (by kernel_rfl)]
    kernel_rfl
  have e2 : fullE D4 sLoud = 0 := by kernel_rfl
  have := full_any h chained4 sLoud
  rwa [e1, e2] at this
theorem full_n {w : World} {fb mb : Nat} (h : FaIn w fb mb D4) : Calls Try.prog 26 #[.pointer (some ⟨fb, 0, none⟩), .string sNone] w fun e w' => e = .returned (.tuple #[attZero.val, .int .i64 8]) ∧ Below w.heap.size w w' := full_no h sNone (by kernel_rfl)
theorem attrs_k {w : World} {fb mb : Nat} (h : FaIn w fb mb D4) : Calls Try.prog 27 #[.pointer (some ⟨fb, 0, none⟩), .string sLoud] w fun e w' => e = .returned (.tuple #[aLoud.val, .bool true]) ∧ Below w.heap.size w w' := by
  have e1 : lookZ D4 sLoud = aLoud := by kernel_rfl
  have e2 : (look D4 sLoud).isSome = true := by kernel_rfl
  have := attrs_any h sLoud
  rwa [e1, e2] at this
theorem res_none : lookV (over (accum D4 []) (fullA D4 dflt)) = .agg #[.int .i64 7, .int .i64 0, .bool false, .bool false, .bool false] := by
  rw [show accum D4 [] = attZero from rfl, full_at ch_d (by kernel_rfl)]
  kernel_rfl
theorem res_nw : lookV (over (accum D4 [sNothing, sWarn]) (fullA D4 dflt)) = .agg #[.int .i64 2, .int .i64 0, .bool true, .bool false, .bool false] := by
  rw [show accum D4 [sNothing, sWarn] = over (over attZero (fullA D4 sNothing)) (fullA D4 sWarn) from rfl, full_at ch_w (by kernel_rfl), fullA_no (by kernel_rfl), full_at ch_d (by kernel_rfl)]
  kernel_rfl
theorem resN {W w : World} {fb mb : Nat} {R : Heap} (h : FaAt W w fb mb D4 R) : Calls Try.prog 28 #[.pointer (some ⟨fb, 0, none⟩), .slice none 0 0] w fun e w' => e = .returned (.agg #[.int .i64 7, .int .i64 0, .bool false, .bool false, .bool false]) ∧ FaAt W w' fb mb D4 R := by
  refine (resolve_any h.fin chained4 [] _ (Rd.nil w 1) (by decide)).mono ?_
  rintro e w' ⟨rfl, hb⟩
  exact ⟨by rw [res_none], h.below hb⟩
theorem def6 {W w : World} {fb mb : Nat} {R : Heap} (h : FaAt W w fb mb D4 R) : Calls Try.prog 19 #[.pointer (some ⟨fb, 0, none⟩), .string sX, (⟨0, 0, 0, 0, 0, sX⟩ : Att).val] w fun e w' => e = .returned (.int .i64 8) ∧ FaAt W w' fb mb D4 R :=
  define_unknown h sX ⟨0, 0, 0, 0, 0, sX⟩ (by decide) (by kernel_rfl) (by kernel_rfl) (by decide) (by decide) (by kernel_rfl) (by kernel_rfl)
theorem def7 {W w : World} {fb mb : Nat} {R : Heap} (h : FaAt W w fb mb D4 R) : Calls Try.prog 19 #[.pointer (some ⟨fb, 0, none⟩), .string ⟨#[88]⟩, attZero.val] w fun e w' => e = .returned (.int .i64 17) ∧ FaAt W w' fb mb D4 R :=
  define_name h ⟨#[88]⟩ attZero (by decide) (by kernel_rfl)
theorem def8 {W w : World} {fb mb : Nat} {R : Heap} (h : FaAt W w fb mb D4 R) : Calls Try.prog 19 #[.pointer (some ⟨fb, 0, none⟩), .string sX, (⟨0, 0, 3, 0, 0, ⟨#[]⟩⟩ : Att).val] w fun e w' => e = .returned (.int .i64 3) ∧ FaAt W w' fb mb D4 R :=
  define_range h sX ⟨0, 0, 3, 0, 0, ⟨#[]⟩⟩ (by decide) (by kernel_rfl) (by kernel_rfl)
theorem def9 {W w : World} {fb mb : Nat} {R : Heap} (h : FaAt W w fb mb D4 R) : Calls Try.prog 19 #[.pointer (some ⟨fb, 0, none⟩), .string sX, (⟨0, 0, 0, 0, 0, ⟨#[45, 88]⟩⟩ : Att).val] w fun e w' => e = .returned (.int .i64 17) ∧ FaAt W w' fb mb D4 R :=
  define_pname h sX ⟨0, 0, 0, 0, 0, ⟨#[45, 88]⟩⟩ (by decide) (by kernel_rfl) (by kernel_rfl) (by decide) (by decide) (by kernel_rfl)
theorem dropT {W w : World} {fb mb : Nat} {D D' : Fm} {R : Heap} {n : ByteArray} {k : Int} (hd : (look D dflt).isSome = true) (h1 : dropE D n = k) (h2 : dropN D n = D') (h : FaAt W w fb mb D R) :
    Calls Try.prog 21 #[.pointer (some ⟨fb, 0, none⟩), .string n] w fun e w' => e = .returned (.int .i64 k) ∧ FaAt W w' fb mb D' R := by
  subst h1 h2
  exact drop_total h hd n
theorem dr1 {W w : World} {fb mb : Nat} {R : Heap} (h : FaAt W w fb mb D4 R) : Calls Try.prog 21 #[.pointer (some ⟨fb, 0, none⟩), .string sWarn] w fun e w' => e = .returned (.int .i64 9) ∧ FaAt W w' fb mb D4 R :=
  dropT (by kernel_rfl) (by kernel_rfl) (by kernel_rfl) h
theorem dr2 {W w : World} {fb mb : Nat} {R : Heap} (h : FaAt W w fb mb D4 R) : Calls Try.prog 21 #[.pointer (some ⟨fb, 0, none⟩), .string dflt] w fun e w' => e = .returned (.int .i64 10) ∧ FaAt W w' fb mb D4 R :=
  dropT (by kernel_rfl) (by kernel_rfl) (by kernel_rfl) h
theorem dr3 {W w : World} {fb mb : Nat} {R : Heap} (h : FaAt W w fb mb D4 R) : Calls Try.prog 21 #[.pointer (some ⟨fb, 0, none⟩), .string sNone] w fun e w' => e = .returned (.int .i64 8) ∧ FaAt W w' fb mb D4 R :=
  dropT (by kernel_rfl) (by kernel_rfl) (by kernel_rfl) h
theorem dr4 {W w : World} {fb mb : Nat} {R : Heap} (h : FaAt W w fb mb D4 R) : Calls Try.prog 21 #[.pointer (some ⟨fb, 0, none⟩), .string sLoud] w fun e w' => e = .returned (.int .i64 0) ∧ FaAt W w' fb mb D5 R :=
  dropT (by kernel_rfl) (by kernel_rfl) (by kernel_rfl) h
theorem dr5 {W w : World} {fb mb : Nat} {R : Heap} (h : FaAt W w fb mb D5 R) : Calls Try.prog 21 #[.pointer (some ⟨fb, 0, none⟩), .string sWarn] w fun e w' => e = .returned (.int .i64 0) ∧ FaAt W w' fb mb D6 R :=
  dropT (by kernel_rfl) (by kernel_rfl) (by kernel_rfl) h
theorem good6 : GoodF D6 := by
  refine ⟨by decide, ?_, ?_, by decide, ?_, by kernel_rfl⟩
  · intro x hx
    simp only [D6, List.mem_cons, List.not_mem_nil, or_false] at hx
    rcases hx with rfl | rfl <;> kernel_rfl
  · intro x hx
    simp only [D6, List.mem_cons, List.not_mem_nil, or_false] at hx
    rcases hx with rfl | rfl <;> exact .inl rfl
  · intro s hs
    obtain ⟨a, ha⟩ := look_mem hs
    simp only [D6, List.mem_cons, List.not_mem_nil, or_false, Prod.mk.injEq] at ha
    rcases ha with ⟨rfl, _⟩ | ⟨rfl, _⟩
    · exact ⟨_, chain_one (by decide) (by kernel_rfl)⟩
    · exact ⟨_, chain_one (by decide) (by kernel_rfl)⟩
theorem names6 : namesF D6 = [sCalm, dflt] := by
  have hp : (D6.map (·.1.data.toList)).Perm [sCalm.data.toList, dflt.data.toList] := List.Perm.swap _ _ _
  unfold namesF
  rw [mergeSort_of_perm hp, List.mergeSort_of_pairwise (by decide)]
  rfl
/-- A box beside the faces. -/
theorem FaAt.box {W w : World} {fb mb : Nat} {D : Fm} {R : Heap} (h : FaAt W w fb mb D R) (t : TypeId) (cs : Array Value) : FaAt W (w.alloc (.cells cs t)) fb mb D ((w.heap.size, .cells t cs) :: R) :=
  (Own.newCells h t cs).perm ((List.Perm.swap _ _ _).trans ((List.Perm.swap _ _ _).cons _))
theorem FaAt.inR {W w : World} {fb mb : Nat} {D : Fm} {R : Heap} (h : FaAt W w fb mb D R) : Own W w R := (Own.tail h).tail
theorem known_names {W w : World} {fb mb : Nat} {R : Heap} (h : FaAt W w fb mb D6 R) : Calls Try.prog 24 #[.pointer (some ⟨fb, 0, none⟩)] w fun e w' =>
    ∃ A c, e = .returned (.slice A 2 c) ∧ Rd w' (.slice A 2 c) 1 2 (strs [sCalm, dflt]) ∧ FaAt W w' fb mb D6 R := by
  refine (names_any h good6).mono ?_
  rintro e w' ⟨v, rfl, hs, _, hb⟩
  rw [names6] at hs
  obtain ⟨A, c, rfl, _⟩ := hs.form
  exact ⟨A, c, rfl, hs.rd, h.below hb⟩
theorem row2 (w : World) (t : TypeId) (x y : ByteArray) : Rd (w.alloc (.cells #[.string x, .string y] t)) (.slice (some ⟨w.heap.size, 0, none⟩) 2 2) 1 2 (strs [x, y]) :=
  rd_row w t 1 #[.string x, .string y] 2 (strs [x, y]) rfl (by simp [strs]) (by unfold maxLen; omega)
set_option maxRecDepth 100000 in
set_option maxRecDepth 100000 in
set_option maxHeartbeats 16000000 in
theorem known_any (w : World) : Calls Try.prog 5 #[] w fun e w' => e = .returned (.bool true) ∧ Below w.heap.size w w' := by
  have e1 := fun w => eql_look w 0 5 0 5 false true false false true false
  have e2 := fun w => eql_look w 7 0 7 0 false false false false false false
  have e3 := fun w => eql_look w 2 0 2 0 true false false true false false
  have e4 := fun w => eql_att w ⟨3, 5, 0, 0, 0, ⟨#[]⟩⟩
  have e5 := fun w => eql_att w ⟨2, 0, 1, 0, 1, ⟨#[]⟩⟩
  have e6 := fun w => eql_att w ⟨0, 0, 0, 0, 1, sWarn⟩
  go_enter Try.func5, Try.ntmps5
  go_wp2_with fail
  refine (Calls.mono (chapter_any w)) ?_
  rintro r w2 ⟨fb, mb, rfl, h2⟩
  have H2 := hide h2
  clear h2
  go_wp2_with fail
  refine Calls.mono (over_k _) ?_
  rintro r w3 ⟨rfl, h3⟩
  have H3 := hide (H2.out.below h3)
  clear h3
  go_wp2_with fail
  refine Calls.mono (look_k _) ?_
  rintro r w4 ⟨rfl, h4⟩
  have H4 := hide (H3.out.below h4)
  clear h4
  go_wp2_with fail
  refine Calls.mono (full_k H4.out.fin) ?_
  rintro r w5 ⟨rfl, h5⟩
  have H5 := hide ((H4.out.below h5).box 23 (⟨2, 0, 1, 0, 1, ⟨#[]⟩⟩ : Att).cells.toArray)
  clear h5
  go_wp2_with fail
  refine Calls.mono (full_n H5.out.fin) ?_
  rintro r w6 ⟨rfl, h6⟩
  have H6 := hide ((H5.out.below h6).box 23 attZero.cells.toArray)
  clear h6
  go_wp2_with fail
  refine Calls.mono (attrs_k H6.out.fin) ?_
  rintro r w7 ⟨rfl, h7⟩
  have H7 := hide ((H6.out.below h7).box 23 aLoud.cells.toArray)
  have G7 := hide (H6.out.below h7)
  clear h7
  obtain ⟨a0, a1, a2, a3, a4, a5⟩ := Blk.att (a := ⟨2, 0, 1, 0, 1, ⟨#[]⟩⟩) (H7.out.inR.blk (g := w5.heap.size) (t := 23) (by simp [Att.cells]))
  dsimp only at a0 a1 a2 a3 a4 a5
  go_wp2_with fail
  refine Calls.mono (resN H7.out) ?_
  rintro r w8 ⟨rfl, h8⟩
  have H8 := hide h8
  clear h8 a0 a1 a2 a3 a4 a5
  go_wp2_with fail
  refine Calls.mono (resT (n := 2) H8.out chained4 [sNothing, sWarn] _ rfl rfl (by decide) res_nw) ?_
  rintro r w9 ⟨rfl, h9⟩
  have H9 := hide h9
  clear h9
  go_wp2_with fail
  refine Calls.mono (def6 H9.out) ?_
  rintro r w10 ⟨rfl, h10⟩
  have H10 := hide h10
  clear h10
  go_wp2_with fail
  refine Calls.mono (def7 H10.out) ?_
  rintro r w11 ⟨rfl, h11⟩
  have H11 := hide h11
  clear h11
  go_wp2_with fail
  refine Calls.mono (def8 H11.out) ?_
  rintro r w12 ⟨rfl, h12⟩
  have H12 := hide h12
  clear h12
  go_wp2_with fail
  refine Calls.mono (def9 H12.out) ?_
  rintro r w13 ⟨rfl, h13⟩
  have H13 := hide h13
  clear h13
  go_wp2_with fail
  refine Calls.mono (dr1 H13.out) ?_
  rintro r w14 ⟨rfl, h14⟩
  have H14 := hide h14
  clear h14
  go_wp2_with fail
  refine Calls.mono (dr2 H14.out) ?_
  rintro r w15 ⟨rfl, h15⟩
  have H15 := hide h15
  clear h15
  go_wp2_with fail
  refine Calls.mono (dr3 H15.out) ?_
  rintro r w16 ⟨rfl, h16⟩
  have H16 := hide h16
  clear h16
  go_wp2_with fail
  refine Calls.mono (dr4 H16.out) ?_
  rintro r w17 ⟨rfl, h17⟩
  have H17 := hide h17
  clear h17
  go_wp2_with fail
  refine Calls.mono (dr5 H17.out) ?_
  rintro r w18 ⟨rfl, h18⟩
  have H18 := hide h18
  clear h18
  go_wp2_with fail
  refine Calls.mono (awake_any _) ?_
  rintro r w19 ⟨rfl, h19⟩
  have H19 := hide (H18.out.below h19)
  clear h19
  go_wp2_with fail
  refine Calls.mono (known_names H19.out) ?_
  rintro r w20 ⟨A, c, rfl, hr, h20⟩
  have H20 := hide h20
  have HR := hide (hr.belowF ((Below.refl _ _).alloc (Nat.le_refl _) (.cells #[.string sCalm, .string dflt] 9)))
  have HB := hide (h20.below ((Below.refl _ _).alloc (Nat.le_refl _) (.cells #[.string sCalm, .string dflt] 9)))
  clear h20 hr
  go_wp2_with fail
  refine Calls.mono (names_eq [sCalm, dflt] [sCalm, dflt] HR.out (row2 _ _ _ _) (by decide) (by decide)) ?_
  rintro r w21 ⟨rfl, q, rfl⟩
  have HZ := hide (HB.out.below (below_later _ q)).bel
  clear HR
  go_wp2
  go_ret
  exact ⟨rfl, HZ.out⟩
end Go.Proofs.Ytmjogpacajbngaa
