/- PropsNames: the walk. No condition but those written. -/
import Derived.Test.YtgiogmbopiblmaaPqg
namespace Go.Proofs.Ytgiogmbopiblmaa
open Go.RowKit

theorem SnAt.keep {w w' : World} {v : Value} {S : List (Sn × Value)} (h : SnAt w v S) (k : KeepT isCode w w') : SnAt w' v S := ⟨k.toSl h.row (by rintro (e | e) <;> cases e), fun s hs => k.toSl (h.inn s hs) (by rintro (e | e) <;> cases e)⟩
abbrev y1 : Pr := (1, 0, 4)
abbrev exD : List Pc := [⟨65536, 65537, [y1]⟩]
abbrev exE : List Pc := [⟨7, 8, [y1]⟩, ⟨65536, 65537, [y1]⟩]
theorem nfD : Nf 0 [] exD := by simp [Nf]
theorem nfE : Nf 0 [] exE := by simp [Nf]
theorem gdD : Good exD 64 := good_list nfD (by simp [Asc17] <;> (try refine ⟨?_, ?_, ?_⟩) <;> intros <;> omega)
theorem gdE : Good exE 64 := good_list nfE (by simp [Asc17] <;> (try refine ⟨?_, ?_, ?_⟩) <;> intros <;> omega)
theorem put_bad {P : List Pc} {a d : Int} {x : Pr} {e : Int} (h : chkE a d x.1 = e) (he : e ≠ 0) : putE P a d x = e ∧ putP P a d x = P := by
  subst h
  unfold putE putP
  rw [if_pos he, if_pos he]
  exact ⟨rfl, rfl⟩
theorem put_ok {P Q : List Pc} {a d : Int} {x : Pr} (h : chkE a d x.1 = 0) (hc : changeP a.toNat d.toNat (fun q => withP q x) P = Q) (hf : fullP Q = false) : putE P a d x = 0 ∧ putP P a d x = Q := by
  unfold putE putP
  rw [h, hc, hf]
  exact ⟨rfl, rfl⟩
theorem putX1 : putE [] 0 3 (1, 0, 4) = 3 ∧ putP [] 0 3 (1, 0, 4) = [] := put_bad rfl (by decide)
theorem putX2 : putE [] 3 2 (1, 0, 4) = 3 ∧ putP [] 3 2 (1, 0, 4) = [] := put_bad rfl (by decide)
theorem putX3 : putE [] 1 65538 (1, 0, 4) = 3 ∧ putP [] 1 65538 (1, 0, 4) = [] := put_bad rfl (by decide)
theorem putX4 : putE [] 1 3 (-1, 0, 4) = 17 ∧ putP [] 1 3 (-1, 0, 4) = [] := put_bad rfl (by decide)
theorem putD : putE [] 65536 65537 y1 = 0 ∧ putP [] 65536 65537 y1 = exD := by
  refine put_ok rfl ?_ rfl
  show changeP 65536 65537 _ _ = _
  refine change_to trivial (by omega) nfD fun x => ?_
  unfold tgt
  simp only [den]
  split <;> rfl
theorem insD1 : insE exD 1 1 = 3 ∧ insQ exD 1 1 = exD := by
  have e : insE exD 1 1 = 3 := rfl
  refine ⟨e, ?_⟩
  unfold insQ
  rw [e]
  rfl
theorem insD2 : insE exD 65537 9 = 0 ∧ insQ exD 65537 9 = exD := by
  have e : insE exD 65537 9 = 0 := rfl
  refine ⟨e, ?_⟩
  unfold insQ
  rw [e]
  show insP 65537 9 exD = exD
  refine ins_to nfD nfD fun x => ?_
  simp only [den]
  repeat' split
  all_goals first | rfl | (exfalso; omega)
theorem insD3 : insE exD 1 (-1) = 2 ∧ insQ exD 1 (-1) = exD := by
  have e : insE exD 1 (-1) = 2 := rfl
  refine ⟨e, ?_⟩
  unfold insQ
  rw [e]
  rfl
theorem cutD : cutS exD 65530 65537 = [⟨7, 8, [y1]⟩] := rfl
theorem pasD : pasteE exD 1 [⟨7, 8, [y1]⟩] = 0 ∧ pasteQ exD 1 [⟨7, 8, [y1]⟩] = exE := by
  refine pasteR_ok (by omega) (Q := exE) ?_ rfl
  show Sum.inr (changeP 7 8 (fun q => withP q y1) exD) = _
  refine congrArg Sum.inr ?_
  refine change_to nfD (by omega) nfE fun x => ?_
  unfold tgt
  simp only [den]
  repeat' split
  all_goals first | rfl | (exfalso; omega)
theorem pasE1 : pasteE exE 65531 [⟨7, 8, [y1]⟩] = 3 ∧ pasteQ exE 65531 [⟨7, 8, [y1]⟩] = exE := pasteR_bad (by omega) rfl
theorem pasE2 : pasteE exE 1 [⟨0, 1, []⟩] = 3 ∧ pasteQ exE 1 [⟨0, 1, []⟩] = exE := pasteR_bad (by omega) rfl
theorem nxE1 : nextP sameL exE 7 5 = 5 := rfl
theorem nxE2 : nextP sameL exE 65536 99999 = 65537 := rfl
theorem cov_one (a : Int) (s : Sn) (x : Nat) : cov a [s] x ≤ s.pr.length := by
  unfold cov
  split <;> simp [cov]
section
variable {W w : World} {b : Nat} {P : List Pc}
theorem obj_put' (h : Obj W w b P) (hg : Good P 64) {Q : List Pc} {r a d n k v : Int} (e : putE P a d (n, k, v) = r ∧ putP P a d (n, k, v) = Q) : Calls Try.prog 13 #[.pointer (some ⟨b, 0, none⟩), .int .i64 a, .int .i64 d, .int .i64 n, .agg #[.int .i64 k, .int .i64 v]] w (ORes W w b Q (.int .i64 r)) := by
  have := obj_put h hg (by omega) a d n k v
  rw [e.1, e.2] at this
  exact this
theorem obj_ins' (h : Obj W w b P) (hg : Good P 64) {Q : List Pc} {r a n : Int} (e : insE P a n = r ∧ insQ P a n = Q) : Calls Try.prog 19 #[.pointer (some ⟨b, 0, none⟩), .int .i64 a, .int .i64 n] w (ORes W w b Q (.int .i64 r)) := by
  have := obj_ins h hg (by omega) a n
  rw [e.1, e.2] at this
  exact this
theorem obj_paste' (h : Obj W w b P) (hg : Good P 64) {vS : Value} {s : Sn} {pv : Value} (hs : SnRd w vS [(s, pv)]) {Q : List Pc} {r a : Int} (hl : s.pr.length ≤ 64) (e : pasteE P a [s] = r ∧ pasteQ P a [s] = Q) : Calls Try.prog 17 #[.pointer (some ⟨b, 0, none⟩), .int .i64 a, vS] w (ORes W w b Q (.int .i64 r)) := by
  have := obj_paste (D := 64) h hg vS [(s, pv)] hs a (fun x => Nat.le_trans (cov_one a s x) hl) (by omega) (by simp) (by simp; omega)
  rw [show sns [(s, pv)] = [s] from rfl, e.1, e.2] at this
  exact this
end
set_option maxRecDepth 100000 in
set_option maxHeartbeats 16000000 in
theorem names_walk (w : World) : Calls Try.prog 4 #[] w fun e w' => e = .returned (.bool true) ∧ Below w.heap.size w w' := by
  go_enter Try.func4, Try.ntmps4
  go_wp2_with fail
  refine (Calls.mono (obj_new (Below.refl _ w))) ?_
  rintro r w1 ⟨b, rfl, h1, b1⟩
  have H1 := hide h1
  clear h1
  clear b1
  go_wp2_with fail
  refine (Calls.mono (int_any 4 w1)) ?_
  rintro r w2 ⟨rfl, b2⟩
  have hb0 := b2.trans ((below_box w2 (.cells #[.int .i64 0, .int .i64 4] 29)).mono b2.size)
  have H2 := hide (H1.out.below hb0)
  have B2 := hide (Blk.new w2 29 #[.int .i64 0, .int .i64 4])
  have c0 := B2.out.cell 0
  have c1 := B2.out.cell 1
  clear b2 H1 hb0
  go_wp2_with fail
  refine (Calls.mono (obj_put' H2.out (Good.nil 64) putX1)) ?_
  rintro r w3 ⟨rfl, h3, k3⟩
  have H3 := hide h3
  have B3 := hide (k3.toBlk B2.out (by rintro (e | e) <;> cases e))
  have c0 := B3.out.cell 0
  have c1 := B3.out.cell 1
  clear h3 k3 H2
  go_wp2_with fail
  refine (Calls.mono (obj_put' H3.out (Good.nil 64) putX2)) ?_
  rintro r w4 ⟨rfl, h4, k4⟩
  have H4 := hide h4
  have B4 := hide (k4.toBlk B3.out (by rintro (e | e) <;> cases e))
  have c0 := B4.out.cell 0
  have c1 := B4.out.cell 1
  clear h4 k4 H3
  go_wp2_with fail
  refine (Calls.mono (obj_put' H4.out (Good.nil 64) putX3)) ?_
  rintro r w5 ⟨rfl, h5, k5⟩
  have H5 := hide h5
  have B5 := hide (k5.toBlk B4.out (by rintro (e | e) <;> cases e))
  have c0 := B5.out.cell 0
  have c1 := B5.out.cell 1
  clear h5 k5 H4
  go_wp2_with fail
  refine (Calls.mono (obj_put' H5.out (Good.nil 64) putX4)) ?_
  rintro r w6 ⟨rfl, h6, k6⟩
  have H6 := hide h6
  have B6 := hide (k6.toBlk B5.out (by rintro (e | e) <;> cases e))
  have c0 := B6.out.cell 0
  have c1 := B6.out.cell 1
  clear h6 k6 H5
  go_wp2_with fail
  refine (Calls.mono (obj_put' H6.out (Good.nil 64) putD)) ?_
  rintro r w7 ⟨rfl, h7, k7⟩
  have H7 := hide h7
  have B7 := hide (k7.toBlk B6.out (by rintro (e | e) <;> cases e))
  clear h7 k7 H6
  go_wp2_with fail
  refine (Calls.mono (obj_ins' H7.out gdD insD1)) ?_
  rintro r w8 ⟨rfl, h8, k8⟩
  have H8 := hide h8
  have B8 := hide (k8.toBlk B7.out (by rintro (e | e) <;> cases e))
  clear h8 k8 H7
  go_wp2_with fail
  refine (Calls.mono (obj_ins' H8.out gdD insD2)) ?_
  rintro r w9 ⟨rfl, h9, k9⟩
  have H9 := hide h9
  have B9 := hide (k9.toBlk B8.out (by rintro (e | e) <;> cases e))
  clear h9 k9 H8
  go_wp2_with fail
  refine (Calls.mono (obj_ins' H9.out gdD insD3)) ?_
  rintro r w10 ⟨rfl, h10, k10⟩
  have H10 := hide h10
  have B10 := hide (k10.toBlk B9.out (by rintro (e | e) <;> cases e))
  clear h10 k10 H9
  go_wp2_with fail
  refine (Calls.mono (obj_cut H10.out gdD (by omega) 65530 65537)) ?_
  rintro r w11 ⟨v11, S, rfl, h11, e11⟩
  rw [cutD] at e11
  obtain ⟨s0, v0, rfl⟩ : ∃ s0 v0, S = [(s0, v0)] := by
    have hl : S.length = 1 := by rw [← sns_len, e11]; rfl
    match S, hl with
    | [(s0, v0)], _ => exact ⟨s0, v0, rfl⟩
  simp only [sns, List.map_cons, List.map_nil, List.cons.injEq, and_true] at e11
  subst e11
  obtain ⟨A11, c11, rfl, _⟩ := h11.inn.row.form
  have H11 := hide (H10.out.below h11.bel)
  have B11 := hide (B10.out.below h11.bel B10.out.lt)
  have S11 := hide h11.inn
  clear h11 H10
  go_wp2_with fail
  refine (Calls.mono (obj_paste' H11.out gdD S11.out.rd (by simp) pasD)) ?_
  rintro r w12 ⟨rfl, h12, k12⟩
  have H12 := hide h12
  have B12 := hide (k12.toBlk B11.out (by rintro (e | e) <;> cases e))
  have S12 := hide (S11.out.keep k12)
  clear h12 k12 H11 S11
  go_wp2_with fail
  refine (Calls.mono (obj_paste' H12.out gdE S12.out.rd (by simp) pasE1)) ?_
  rintro r w13 ⟨rfl, h13, k13⟩
  have H13 := hide h13
  have B13 := hide (k13.toBlk B12.out (by rintro (e | e) <;> cases e))
  have S13 := hide (S12.out.keep k13)
  clear h13 k13 H12 S12
  go_wp2_with fail
  have hbx := below_box w13 (.cells #[.int .i64 0, .int .i64 1, .slice none 0 0] 38)
  have H14 := hide (H13.out.below hbx)
  have B14 := hide (B13.out.below hbx B13.out.lt)
  have S14 := hide (S13.out.below hbx)
  have hpb : SnRd (w13.alloc (.cells #[.int .i64 0, .int .i64 1, .slice none 0 0] 38)) (.slice (some ⟨w13.heap.size, 0, none⟩) 1 1) [(⟨0, 1, []⟩, .slice none 0 0)] := ⟨rd_sn w13 (⟨0, 1, []⟩, .slice none 0 0), fun s hs => by
    have : s = (⟨0, 1, []⟩, .slice none 0 0) := by simpa using hs
    subst this
    exact Rd.nil _ _⟩
  refine Calls.mono (obj_paste' H14.out gdE hpb (by simp) pasE2) ?_
  rintro r w15 ⟨rfl, h15, k15⟩
  have H15 := hide h15
  have B15 := hide (k15.toBlk B14.out (by rintro (e | e) <;> cases e))
  have S15 := hide (S14.out.keep k15)
  clear h15 k15 H14 H13 S14 S13 hbx hpb
  go_wp2_with fail
  refine (Calls.mono (obj_get H15.out gdE (by omega) 7 1)) ?_
  rintro r w16 ⟨rfl, b16⟩
  have hb0 := b16.trans ((below_box w16 (.cells #[.int .i64 0, .int .i64 4] 29)).mono b16.size)
  have H16 := hide (H15.out.below hb0)
  have B16 := hide (B15.out.below hb0 B15.out.lt)
  have S16 := hide (S15.out.below hb0)
  have G16 := hide (Blk.new w16 29 #[.int .i64 0, .int .i64 4])
  clear b16 hb0 H15 B15 S15
  rw [show getV (denI exE 7) 1 = (0, 4) from rfl, show getP (denI exE 7) 1 = some (0, 4) from rfl]
  simp only [Option.isSome_some]
  go_wp2_with fail
  refine Calls.mono (lives_any _) ?_
  rintro r w17 ⟨rfl, b17⟩
  have H17 := hide (H16.out.below b17)
  have B17 := hide (B16.out.below b17 B16.out.lt)
  have G17 := hide (G16.out.below b17 G16.out.lt)
  have S17 := hide (S16.out.below b17)
  obtain ⟨g, off, e1, p00, p01, _⟩ := S17.out.rd.at_ rfl (i := 0) rfl
  subst e1
  have c0 := B17.out.cell 0
  have c1 := B17.out.cell 1
  have d0 := G17.out.cell 0
  have d1 := G17.out.cell 1
  simp only [Nat.zero_mul, Nat.add_zero] at p00 p01
  clear b17 H16 B16 S16 G16
  go_wp2_with fail
  refine Calls.mono (obj_next H17.out gdE (by omega) 7 5) ?_
  rintro r w18 ⟨rfl, b18⟩
  have H18 := hide (H17.out.below b18)
  rw [nxE1]
  go_wp2_with fail
  refine Calls.mono (obj_next H18.out gdE (by omega) 65536 99999) ?_
  rintro r w19 ⟨rfl, b19⟩
  have H19 := hide (H18.out.below b19)
  rw [nxE2]
  go_wp2_with fail
  refine Calls.mono (obj_list H19.out gdE (by omega) 0) ?_
  rintro r w20 ⟨v20, rfl, h20, _, b20⟩
  have H20 := hide (H19.out.below b20)
  rw [show denI exE 0 = [] from rfl] at h20
  obtain ⟨A20, c20, rfl, _⟩ := Sl.form h20
  clear b18 b19 b20 h20 H17 H18 H19
  simp only [List.length_nil]
  go_wp2
  go_ret
  exact ⟨rfl, H20.out.bel⟩
end Go.Proofs.Ytgiogmbopiblmaa
