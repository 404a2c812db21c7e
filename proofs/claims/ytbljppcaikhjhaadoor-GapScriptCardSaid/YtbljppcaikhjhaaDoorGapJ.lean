/- The walk of Insert where it inserts. No condition but those written. -/
import Derived.Test.YtbljppcaikhjhaaDoorGapI
namespace Go.Proofs.YtbljppcaikhjhaaDoor
open Go.RowKit

section
variable {W w w' : World} {b : Gb} {L : List Nat} {R : Heap}
theorem InsIt.drew {tb bb bo bc : Nat} {fv : Value} {F : List Nat} {en gi a N : Nat} {L X : List Nat} {s : ByteArray} {v : Value} (h : InsIt W tb bb bo bc fv F en gi a N L X s R v w) : InsIt W tb bb bo bc fv F en gi a N L X s R v w.drew := by
  obtain ⟨pos, X1, X2, B', h1, h2, h3, h4⟩ := h
  exact ⟨pos, X1, X2, B', h1, h2, h3.drew, h4⟩
theorem insPerm {α : Type} (x : α) (A B : List α) : (x :: (A ++ B)).Perm (A ++ (x :: B)) := List.perm_middle.symm
theorem insPerm2 {α : Type} (x y z : α) (A B R : List α) : ((x :: y :: A) ++ (z :: (B ++ R))).Perm (A ++ (B ++ (x :: y :: z :: R))) := by
  classical
  rw [List.perm_iff_count]
  intro q
  simp only [List.count_append, List.count_cons]
  omega
def InsOk (W : World) (b : Gb) (L' : List Nat) (R : Heap) (e : Ending) (w' : World) : Prop := e = .returned (.int .i64 0) ∧ ∃ b', b'.tb = b.tb ∧ TextAt W w' b' L' R
set_option maxRecDepth 100000 in
set_option maxHeartbeats 4000000 in
theorem insert_ok (h : InsSt W b L R w) (a : Nat) (ha : a ≤ L.length) (s : ByteArray) (hs : s.size < 9223372036854775807) (X : List Nat) (hX : charsL s.data.toList = some X) (hl : L.length + X.length ≤ 65536) :
    Calls Tryd.prog 21 #[.pointer (some ⟨b.tb, 0, none⟩), .int .i64 ((a : Int) + 1), .string s] w (InsOk W b (L.take a ++ X ++ L.drop a) R) := by
  have H := hide h
  have hsz := h.1.ok.size
  obtain ⟨n, hn⟩ : ∃ n, n = X.length := ⟨_, rfl⟩
  obtain ⟨l, hll⟩ : ∃ l, l = L.length := ⟨_, rfl⟩
  have hv : validS s = true := by simp [validS, hX]
  have hnl : lenS s = n := by simp [lenS, hX, hn]
  have HV := hide (fun (w2 : World) (h2 : InsSt W b L R w2) => (show Calls Tryd.prog 36 #[.string s] w2 (fun e w' => e = .returned (.bool true) ∧ InsSt W b L R w') from hv ▸ h2.valid_ s hs))
  have HL := hide (fun (w2 : World) (h2 : InsSt W b L R w2) => (show Calls Tryd.prog 39 #[.string s] w2 (fun e w' => e = .returned (.int .i64 (n : Int)) ∧ InsSt W b L R w') from hnl ▸ h2.len_ s hs))
  have HS := hide (fun (w2 : World) (h2 : InsSt W b L R w2) => (show Calls Tryd.prog 16 #[.pointer (some ⟨b.tb, 0, none⟩)] w2 (fun e w' => e = .returned (.int .i64 (l : Int)) ∧ InsSt W b L R w') from hll ▸ h2.size_))
  have HA := hide ha
  have HLL := hide hll
  have HNN := hide hn
  have HX := hide hX
  rw [← hll, ← hn] at hl
  rw [← hll] at ha hsz
  have hn6 : n ≤ 65536 := by omega
  have ha6 : a ≤ 65536 := by omega
  have hwl : IntKind.i64.wrap ((l : Int) + 1) = (l : Int) + 1 := IntWalk.i64_in _ (by omega)
  have hwa : IntKind.i64.wrap ((a : Int) + 1) = (a : Int) + 1 := IntWalk.i64_in _ (by omega)
  have hw4 : IntKind.i64.wrap ((65536 : Int) - (l : Int)) = (65536 : Int) - (l : Int) := IntWalk.i64_in _ (by omega)
  have z1 : decide ((a : Int) + 1 < 1) = false := by simp; omega
  have z2 : decide ((l : Int) + 1 < (a : Int) + 1) = false := by simp; omega
  have z3 : decide (l < a) = false := by simp; omega
  have z4 : decide ((65536 : Int) - (l : Int) < (n : Int)) = false := by simp; omega
  have HB := hide (show ∀ b' : Gb, b'.tb = b.tb → (⟨b'.tb, b'.bb, b'.bo, b'.bc, b'.fv, b'.g⟩ : Gb) = b' from fun _ _ => rfl)
  have HLIM := hide hl
  have HA2 := hide ha
  clear h hv hnl hll hn hX hl ha
  obtain ⟨i0, hi, hz0, hz1, hz2⟩ := info_parts info_int
  go_enter Tryd.func21, Tryd.ntmps21
  go_wp2_with fail
  refine (Calls.mono (H.out.none_)) ?_
  rintro r w2 ⟨rfl, H2⟩
  have HH := hide H2
  clear H2 H
  go_wp2_with fail
  refine (Calls.mono (HS.out _ HH.out)) ?_
  rintro r w3 ⟨rfl, H3⟩
  have HH3 := hide H3
  clear H3 HH
  go_wp2_with fail
  refine (Calls.mono (HV.out _ HH3.out)) ?_
  rintro r w4 ⟨rfl, H4⟩
  have HH4 := hide H4
  clear H4 HH3
  go_wp2_with fail
  refine (Calls.mono (HL.out _ HH4.out)) ?_
  rintro r w5 ⟨rfl, H5⟩
  have HH5 := hide H5
  clear H5 HH4
  go_wp2_with fail
  refine (Calls.mono (HS.out _ HH5.out)) ?_
  rintro r w6 ⟨rfl, H6⟩
  have HH6 := hide H6
  clear H6 HH5
  go_wp2_with fail
  refine (Calls.mono (move_any HH6.out.1.gap a (by have := b.g.len HH6.out.1.gap.le1 HH6.out.1.gap.le2; rw [HH6.out.1.ok.chars] at this; have := HH6.out.1.gap.le1; have := HH6.out.1.gap.le2; have := HA.out; omega))) ?_
  rintro r w7 ⟨rfl, B2, H7, hl7, hc7⟩
  have HH7 := hide H7
  have HC7 := hide (hc7.trans HH6.out.1.ok.chars)
  have HF := hide HH6.out.1.ok.feed
  have HOK := hide HH6.out.1.ok.okc
  clear H7 hl7 hc7 HH6
  go_wp2_with fail
  refine (Calls.mono (grow_ins (L := L) (n := n) HH7.out rfl HF.out HC7.out (by rw [← HLL.out]; exact HA2.out) (by rw [← HLL.out]; exact HLIM.out))) ?_
  rintro r w8 ⟨rfl, bb, bo, bc, fv, B, en, H8, hgap, hBt, hBd⟩
  obtain ⟨F, hF⟩ : ∃ F, F = feeds 1 L := ⟨_, rfl⟩
  rw [← hF] at H8
  obtain ⟨A, cf, hfv, _⟩ := H8.slF.form
  obtain ⟨m, hm⟩ : ∃ m, m = F.length := ⟨_, rfl⟩
  replace hfv : fv = .slice A m cf := by rw [hm]; exact hfv
  subst hfv
  obtain ⟨p, hp⟩ : ∃ p, p = (feeds 1 (L.take a)).length := ⟨_, rfl⟩
  have hpm : p ≤ m := by rw [hp, hm, hF]; conv => rhs; rw [← List.take_append_drop a L]
                         rw [feeds_append, List.length_append]; omega
  have hm6 : m ≤ 65536 := by rw [hm, hF]; have := feeds_le 1 L; have := HLL.out; have := HLIM.out; omega
  obtain ⟨tb, htb⟩ : ∃ tb, tb = b.tb := ⟨_, rfl⟩
  have hcnt : F.countP (· < a + 1) = p := by
    have := feeds_count (L.take a) (L.drop a)
    rw [List.take_append_drop, List.length_take, Nat.min_eq_left (by rw [← HLL.out]; exact HA2.out)] at this
    rw [hF, hp]
    exact this
  rw [← htb] at H8 ⊢
  have c3 := H8.c3
  have HBS := hide (show Calls Tryd.prog 42 #[.slice A m cf, .int .i64 ((a : Int) + 1)] w8 (fun e w' => ∃ bl, e = .returned (.tuple #[.int .i64 (p : Int), .bool bl]) ∧ GapAt W w' ⟨tb, bb, bo, bc, .slice A m cf, ⟨B, a, en, F⟩⟩ R) from by
    have := bs_any F (a + 1) _ w8 H8.slF (by rw [hF]; exact feeds_sorted 1 L) (by rw [← hm]; omega)
    rw [hcnt] at this
    refine this.mono ?_
    rintro e w' ⟨bl, rfl, q, rfl⟩
    exact ⟨bl, rfl, H8.drewN q⟩)
  have HTB := hide htb
  have HFF := hide hF
  have HM := hide hm
  have HP := hide hp
  have HCK := hide (And.intro hgap (And.intro hBt hBd))
  clear hgap hBt hBd hF hm hp hcnt H8 HH7 HC7 HF htb
  go_wp2_with fail
  refine (Calls.mono (HBS.out)) ?_
  rintro r w9 ⟨bl, rfl, H9⟩
  have HG := hide H9
  clear H9 HBS c3
  go_wp2
  go_loopw [10] (fun t wr => ∃ k : Nat, t = .int .i64 (k : Int) ∧ p ≤ k ∧ k ≤ m ∧ GapAt W wr ⟨tb, bb, bo, bc, .slice A m cf, ⟨B, a, en, bump F p n k⟩⟩ R) (fun t _ => m - (intOf t).toNat)
  case atStart => exact ⟨p, rfl, Nat.le_refl _, hpm, by rw [bump_start]; exact HG.out⟩
  case round =>
    obtain ⟨k, rfl, hk1, hk2, hG⟩ := hrel
    have c3 := hG.c3
    have hbl : (bump F p n k).length = m := by rw [HM.out]; exact bump_len hk1 (by rw [← HM.out]; exact hk2)
    by_cases hkm : k < m
    · obtain ⟨x, hx⟩ : ∃ x, F[k]? = some x := ⟨_, List.getElem?_eq_getElem (by rw [← HM.out]; exact hkm)⟩
      have hx6 : x ≤ 65536 := by
        have h1 := feeds_mem 1 L x (by rw [← HFF.out]; exact List.mem_of_getElem? hx)
        have := HLL.out
        have := HLIM.out
        omega
      obtain ⟨g, off, c', hv', _, _, hcell, hfz, _⟩ := hG.slF.at_ (by show 0 < (bump F p n k).length; omega)
      have hv' : Value.slice A m cf = .slice (some ⟨g, off, none⟩) (bump F p n k).length c' := hv'
      rw [hbl] at hv'
      injection hv' with e1 _ e3
      subst e1 e3
      have hc := hcell k _ (by show (ints (bump F p n k))[k]? = _; simp only [ints, List.getElem?_map]; rw [bump_at hk1 (by rw [← HM.out]; exact hkm), hx]; rfl)
      have hf := hfz (off + k)
      have hw : IntKind.i64.wrap ((x : Int) + (n : Int)) = (x : Int) + (n : Int) := IntWalk.i64_in _ (by omega)
      have hk0 : (0 : Int) ≤ (k : Int) := by omega
      have hk3 : (k : Int) < (m : Int) := by omega
      have z5 : decide (k < m) = true := by simpa using hkm
      have hset := hG.setFeed (x := x + n) (k := k) (g := g) (off := off) (c := cf) (by show Value.slice _ m cf = _; rw [hbl]) (by show k < (bump F p n k).length; omega)
      have hset : GapAt W (wr.setCell ⟨g, off + k, none⟩ (.int .i64 ((x : Int) + (n : Int)))) ⟨tb, bb, bo, bc, .slice (some ⟨g, off, none⟩) m cf, ⟨B, a, en, (bump F p n k).set k (x + n)⟩⟩ R := hset
      rw [bump_step hk1 hx] at hset
      have HSET := hide hset
      clear hset hG hcell hfz hbl hx
      go_wp2
      go_roundw
      case rel => exact ⟨k + 1, by go_num, by omega, by omega, HSET.out⟩
      case measure => simp [intOf]; omega
    · obtain rfl : k = m := by omega
      have z5 : decide (k < k) = false := by simp
      rw [show bump F p n k = F.take p ++ (F.drop p).map (· + n) by rw [HM.out, bump_end]] at hG
      obtain ⟨F2, hF2⟩ : ∃ F2, F2 = F.take p ++ (F.drop p).map (· + n) := ⟨_, rfl⟩
      rw [← hF2] at hG
      have HF2 := hide hF2
      have HG1 := hide hG
      clear hG hbl hF2
      obtain ⟨wo, rfl⟩ : ∃ wo : World, wo = wr := ⟨_, rfl⟩
      go_wp2
      have H8 := hide (show GapAt W (wo.iter s 0) _ _ from HG1.out.obj (.stringIter s 0))
      obtain ⟨gi, hgi⟩ : ∃ gi, gi = wo.heap.size := ⟨_, rfl⟩
      rw [← hgi] at H8 ⊢
      clear HG1 hgi c3
      generalize wo.iter s 0 = w10 at *
      obtain ⟨N, hN⟩ : ∃ N, N = B.length := ⟨_, rfl⟩
      have HNB := hide hN
      clear hN
      go_loopw [11] (fun v wr => InsIt W tb bb bo bc (.slice A k cf) F2 en gi a N L X s R v wr) (fun _ wr => s.size - wr.iterPos gi)
      case atStart => exact ⟨0, [], X, B, rfl, HX.out, H8.out, RowOk.nil, HNB.out.symm, by rw [List.append_nil]; exact HCK.out.2.1, HCK.out.2.2⟩
      case round =>
        obtain ⟨pos, X1, X2, B', hXX, hch, hG, hok, hBl, hBt, hBd⟩ := hrel
        have hobj : wr.heap[gi]? = some (.stringIter s pos) := hG.own.obj (g := gi) (by simp)
        have HXX := hide hXX
        rcases chars_next hch with ⟨rfl, hp⟩ | ⟨c, Y, rfl, hp, hc, hch2⟩
        · have hnx := fun ty => next_over (P := Tryd.prog) ty hobj hp
          have hX1 : X1 = X := by simpa using hXX.symm
          rw [hX1] at hG hok hBt
          have hslF := hG.slF
          have hslV := InsIt.slV hG hok
          have c3 := hG.c3
          have hfl : F2.length = k := by rw [HF2.out, HM.out]; simp; have := hpm; have := HM.out; omega
          have hap := rows_apart (hG.own.perm (R := rowOf 3 1 (.slice A k cf) F2.length (ints F2) ++ (rowOf 3 1 u11 (feeds (a + 1) X).length (ints (feeds (a + 1) X)) ++ ((tb, .cells 64 (gapCells ⟨tb, bb, bo, bc, .slice A k cf, ⟨B', a + X.length, en, F2⟩⟩)) :: (bb, .row 21 1 (.slice (some ⟨bb, bo, none⟩) B'.length bc) B'.length (runs B')) :: (gi, .obj (.stringIter s pos)) :: R))) (by
            exact insPerm2 _ _ _ _ _ _))
          have HI := hide (show Calls Tryd.prog 43 #[.slice A k cf, .int .i64 (p : Int), u11] wr (InsRes wr (.slice A k cf) (F2.take p ++ feeds (a + 1) X ++ F2.drop p)) from ins_any F2 (feeds (a + 1) X) p _ u11 wr hslF hslV hap (by omega) (by omega) (by have := feeds_le (a + 1) X; have := HNN.out; omega))
          have HFE := hide (show F2.take p ++ feeds (a + 1) X ++ F2.drop p = feeds 1 (L.take a ++ X ++ L.drop a) by
            have h1 := feeds_insert (L.take a) X (L.drop a)
            have hal : (L.take a).length = a := by rw [List.length_take]; have := HA.out; omega
            rw [hal, List.take_append_drop, ← HP.out, ← HFF.out, ← HNN.out] at h1
            have h2 : (F.take p).length = p := by rw [List.length_take]; have := HM.out; omega
            rw [HF2.out, List.take_left' h2, List.drop_left' h2]
            exact h1)
          obtain ⟨G, hGd⟩ : ∃ G, G = F2.take p ++ feeds (a + 1) X ++ F2.drop p := ⟨_, rfl⟩
          rw [← hGd] at HI HFE
          clear hGd
          have HGE := hide (hG.sub (R' := R) (List.Sublist.cons _ (List.sublist_append_right _ _)))
          have HBT := hide hBt
          have HBD := hide hBd
          have HBL := hide hBl
          clear hX1 hG hok hBt hslF hslV hap hBd hBl hXX hch hobj hp
          go_wp2_with fail
          refine (Calls.mono (HI.out)) ?_
          rintro r w11 ⟨v', rfl, hs', ho', hv'⟩
          obtain ⟨A', c', rfl, _⟩ := hs'.form
          obtain ⟨hblk, hfin⟩ := ins_final HGE.out HA.out (chars_okc HX.out) HOK.out (by have := HLIM.out; have := HLL.out; have := HNN.out; omega) hs' ho' hv' HFE.out HBT.out HBD.out
          have HFIN := hide hfin
          have x3 : w11.cell? ⟨tb, 3, none⟩ = some (.slice A k cf) := by rw [hblk.cell]; rfl
          have f3 := hblk.frozen 3
          clear hs' ho' hv' hfin hblk
          go_wp2
          go_ret
          exact ⟨rfl, _, HTB.out, HFIN.out⟩
        · obtain ⟨st, hst⟩ : ∃ st, st = a + X1.length := ⟨_, rfl⟩
          obtain ⟨pos2, hpos2⟩ : ∃ p2, p2 = pos + (Utf8.decode s pos).2 := ⟨_, rfl⟩
          obtain ⟨w1, hnx, H1⟩ : ∃ w1, (∀ ty, (Instr.next (.pointer (some ⟨gi, 0, none⟩)) true ty).run Tryd.prog wr = .ok (.tuple #[.bool true, .int .i64 (pos : Int), .int .i32 (c : Int)]) w1) ∧ GapAt W w1 ⟨tb, bb, bo, bc, .slice A k cf, ⟨B', a + X1.length, en, F2⟩⟩ ((gi, .obj (.stringIter s pos2)) :: (rowOf 3 1 u11 (feeds (a + 1) X1).length (ints (feeds (a + 1) X1)) ++ R)) :=
            ⟨_, fun ty => by rw [next_more ty hobj hp, hc], by rw [hpos2]; exact hG.nextPos⟩
          have HPOS := hide (show wr.iterPos gi < pos2 by rw [iterPos_of hobj, hpos2]; have := decode_pos hp hch; omega)
          have HP2 := hide (show pos2 ≤ s.size ∨ pos < s.size from .inr hp)
          have HPS := hide (show wr.iterPos gi < s.size by rw [iterPos_of hobj]; exact hp)
          rw [← hpos2] at hch2
          have HCH := hide hch2
          have HLT := hide (show st < en by
            have := HCK.out.1
            have h2 := HNN.out
            rw [hXX] at h2
            simp at h2
            omega)
          have HST := hide hst
          have HBL := hide hBl
          have HBT := hide hBt
          have HBD := hide hBd
          have HOK1 := hide hok
          have hst6 : st ≤ 65536 + 65536 := by
            have h2 := HNN.out
            rw [hXX] at h2
            simp at h2
            omega
          rw [← hst] at H1
          have H1 := hide H1
          clear hG hobj hXX hch hp hc hch2 hpos2 hst hBl hBt hBd hok
          have hw1 : IntKind.i64.wrap ((st : Int) + 1) = (st : Int) + 1 := IntWalk.i64_in _ (by omega)
          by_cases hc10 : c = 10
          · have z7 : ((c : Int) == 10) = true := by simp; omega
            have HC10 := hide hc10
            have hsl : IntSl w1 u11 (feeds (a + 1) X1) := InsIt.slV (by have := H1.out; rw [HST.out] at this; exact this) HOK1.out
            have hfl : (feeds (a + 1) X1).length ≤ 65536 := by
              have h1 := feeds_le (a + 1) X1
              have h2 := HNN.out
              have h3 := HXX.out
              rw [h3] at h2
              simp at h2
              omega
            have c1 := H1.out.c1
            clear hc10
            go_wp2_with (at_builtin; refine wpList_append_sl rfl (.tmp 81) (.tmp 87) 59 rfl 3 i0 (.int .i64 0) 1 8 Tryd.underlying59 hi hz0 hz1 hz2 rfl _ (feeds (a + 1) X1).length (ints (feeds (a + 1) X1)) rfl (hsl.alloc _) _ rfl 1 [_] (rd_one _ _ _) ?one ?b1 ?b2 ?_)
            case one => rfl
            case b1 => unfold maxLen; omega
            case b2 => omega
            intro v' w2 hsl' honly hv'
            have hx : (st : Int) + 1 = ((a + 1 + X1.length : Nat) : Int) := by rw [HST.out]; omega
            rw [hx] at hsl'
            have HY1 := GapAt.pushRow (x := a + 1 + X1.length) (F := feeds (a + 1) X1) (v := u11) ((H1.out.skip _).perm (insPerm _ _ _)) hsl' honly (by rcases hv' with h | h; exact .inl h; exact .inr (by rw [h]; exact congrArg some (Array.size_push ..).symm))
            have HY := hide (HY1.perm (insPerm _ _ _).symm)
            have hok2 : RowOk v' (feeds (a + 1) X1 ++ [a + 1 + X1.length]).length := by rw [List.length_append]; exact hsl'.rowOk
            have HOK2 := hide hok2
            clear HY1 hsl' honly hv' hsl hok2 c1 hx
            have HSTP := hide (InsIt.step (c := c) (v := v') HXX.out HCH.out (by rw [feeds_snoc, if_pos HC10.out, ← HST.out]; exact HY.out) (by rw [feeds_snoc, if_pos HC10.out]; exact HOK2.out) HBL.out HBT.out HBD.out (by have := HLT.out; rw [HST.out] at this; exact this) HY.out.le2)
            rw [← HST.out] at HSTP
            have hst2 : st < N := by
              have h1 : st ≤ en := HY.out.le1
              have h2 : en ≤ B'.length := HY.out.le2
              have := HLT.out
              have := HBL.out
              omega
            obtain ⟨y, hy⟩ : ∃ y, B'[st]? = some y := ⟨_, List.getElem?_eq_getElem (by rw [HBL.out]; exact hst2)⟩
            have c0 := HY.out.c0
            have c1 := HY.out.c1
            have x0 := HY.out.rune hy
            have f0 := HY.out.frozB (bo + st)
            have f1 := HY.out.blk.frozen 1
            have hap : ¬ bb = tb := HY.out.apart
            have hap2 : ¬ tb = bb := fun e => hap e.symm
            unfold Gb.bv at c0
            rw [show (⟨tb, bb, bo, bc, .slice A k cf, ⟨B', st, en, F2⟩⟩ : Gb).g.B.length = N from HBL.out] at c0
            have hsti : (st : Int) < (N : Int) := by omega
            have hst0 : (0 : Int) ≤ (st : Int) := by omega
            clear hy
            clear hst6 hfl
            go_wp2_with fail
            go_region
            go_wp2_with fail
            go_roundw
            case rel => exact HSTP.out.1.drew
            case measure =>
              have e2 := HSTP.out.2
              rw [show ((st + 1 : Nat) : Int) = (st : Int) + 1 from rfl] at e2
              rw [show ∀ w0 : World, (World.drew w0).iterPos gi = w0.iterPos gi from fun _ => rfl, e2]
              have := HPOS.out
              have := HPS.out
              omega
          · have z7 : ((c : Int) == 10) = false := by simp; omega
            have HC10 := hide hc10
            have HY := H1
            have HSTP := hide (InsIt.step (c := c) (v := u11) HXX.out HCH.out (by rw [feeds_snoc, if_neg HC10.out, ← HST.out]; exact HY.out) (by rw [feeds_snoc, if_neg HC10.out]; exact HOK1.out) HBL.out HBT.out HBD.out (by have := HLT.out; rw [HST.out] at this; exact this) HY.out.le2)
            rw [← HST.out] at HSTP
            have hst2 : st < N := by
              have h1 : st ≤ en := HY.out.le1
              have h2 : en ≤ B'.length := HY.out.le2
              have := HLT.out
              have := HBL.out
              omega
            obtain ⟨y, hy⟩ : ∃ y, B'[st]? = some y := ⟨_, List.getElem?_eq_getElem (by rw [HBL.out]; exact hst2)⟩
            have c0 := HY.out.c0
            have c1 := HY.out.c1
            have x0 := HY.out.rune hy
            have f0 := HY.out.frozB (bo + st)
            have f1 := HY.out.blk.frozen 1
            have hap : ¬ bb = tb := HY.out.apart
            have hap2 : ¬ tb = bb := fun e => hap e.symm
            unfold Gb.bv at c0
            rw [show (⟨tb, bb, bo, bc, .slice A k cf, ⟨B', st, en, F2⟩⟩ : Gb).g.B.length = N from HBL.out] at c0
            have hsti : (st : Int) < (N : Int) := by omega
            have hst0 : (0 : Int) ≤ (st : Int) := by omega
            clear hy
            clear hc10 hst6
            go_wp2_with fail
            go_region
            go_wp2_with fail
            go_roundw
            case rel => exact HSTP.out.1.drew
            case measure =>
              have e2 := HSTP.out.2
              rw [show ((st + 1 : Nat) : Int) = (st : Int) + 1 from rfl] at e2
              rw [show ∀ w0 : World, (World.drew w0).iterPos gi = w0.iterPos gi from fun _ => rfl, e2]
              have := HPOS.out
              have := HPS.out
              omega
end
end Go.Proofs.YtbljppcaikhjhaaDoor
