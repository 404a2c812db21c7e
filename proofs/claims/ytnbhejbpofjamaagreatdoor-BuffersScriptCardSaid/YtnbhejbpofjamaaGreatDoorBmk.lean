/- A set of buffers: Create. No condition but those written. -/
import Derived.Test.YtnbhejbpofjamaaGreatDoorBmh
import Derived.Lib.AppendIntMem
namespace Go.Proofs.YtnbhejbpofjamaaGreatDoor
open Go.RowKit

/-- What Create leaves. -/
def Created (W : World) (sb : Nat) (s : Bst) (n : ByteArray) (R : Heap) (e : Ending) (w' : World) : Prop :=
  e = .returned (.tuple #[.int .i64 (if creE s n = 0 then (s.next : Int) else 0), .int .i64 (creE s n)]) ∧ (creE s n ≠ 0 → SAt W w' sb s R) ∧ (creE s n = 0 → ∃ g z, SAt W w' sb (addS s n g z.bp) (zHeap z ⟨[], 0, s.p, s.q, s.r⟩ ++ R) ∧ ZOk z ⟨[], 0, s.p, s.q, s.r⟩)
theorem Created.same {W w' : World} {sb : Nat} {s : Bst} {n : ByteArray} {R : Heap} {e0 : Int} (he : creE s n = e0) (h0 : e0 ≠ 0) (h : SAt W w' sb s R) : Created W sb s n R (.returned (.tuple #[.int .i64 0, .int .i64 e0])) w' := by
  subst he
  exact ⟨by rw [if_neg h0], fun _ => h, fun h1 => absurd h1 h0⟩
section
variable {W w w' : World} {b : Bb} {s : Bst} {R : Heap}
set_option maxRecDepth 100000 in
set_option maxHeartbeats 2000000 in
theorem create_any (h : BAt W w b s R) (hT : Tabs W) (ok : s.Ok) (hl : s.order.length ≤ 1000000) (hx : s.next ≤ 1000000) (n : ByteArray) (hs : n.size < 9223372036854775807) :
    Calls Tryz.prog 36 #[.pointer (some ⟨b.sb, 0, none⟩), .string n] w (Created W b.sb s n R) := by
  have HN := hide (bnone_any h)
  have HC := hide (chk_any n w (hT.below h.own.bel) hs)
  have H := hide h
  have HT := hide hT
  have HX := hide hx
  have HL := hide hl
  obtain ⟨ce, hce⟩ : ∃ ce, ce = chkE n := ⟨_, rfl⟩
  rw [← hce] at HC
  have HCE := hide hce
  have HF := hide ok.fresh
  obtain ⟨m, hm⟩ : ∃ m, m = s.all.length := ⟨_, rfl⟩
  have HM := hide hm
  clear h hT ok hl hx hs hm hce
  by_cases h0 : ce = 0
  · have y0 : (ce != 0) = false := by simp [h0]
    have H0 := hide h0
    clear h0
    go_enter Tryz.func36, Tryz.ntmps36
    go_wp2_with (first | (go_at_call 44; refine (Calls.mono HN.out) ?_; rintro e w' ⟨rfl, rfl⟩) | (go_at_call 48; refine (Calls.mono HC.out) ?_; rintro e w1 ⟨rfl, b1⟩))
    have H1 := hide (H.out.below b1)
    clear b1 HC HN
    refine (Calls.mono (find_any H1.out n)) ?_
    rintro e w2 ⟨b2, hr⟩
    have H2 := hide (H1.out.below b2)
    clear b2
    rcases hr with ⟨rfl, hr⟩ | ⟨x, hx, hxn, rfl⟩
    · have HR := hide (hasN_false.2 hr)
      have c0 := H2.out.c0
      have hn := (H2.out.mb).len (P := Tryz.prog) Tryz.underlying69 3
      rw [show (nbPairs s.all).length = m by rw [HM.out]; simp [nbPairs]] at hn
      clear hr
      by_cases h2 : 200 ≤ m
      · have y2 : decide ((200 : Int) ≤ (m : Int)) = true := by simp; omega
        have HE := hide (show creE s n = 7 by
          unfold creE
          rw [if_neg (by rw [← HCE.out, H0.out]; simp), if_neg (by rw [HR.out]; simp), if_pos (by rw [← HM.out]; exact h2)])
        clear h2
        go_wp2_with fail
        go_ret2
        exact Created.same HE.out (by decide) ⟨b, rfl, H2.out⟩
      · have y2 : decide ((200 : Int) ≤ (m : Int)) = false := by simp; omega
        have HE := hide (show creE s n = 0 by
          unfold creE
          rw [if_neg (by rw [← HCE.out, H0.out]; simp), if_neg (by rw [HR.out]; simp), if_neg (by rw [← HM.out]; exact h2)])
        clear h2
        go_wp2_with fail
        refine (Calls.mono (add_any H2.out HT.out HF.out HL.out HX.out n)) ?_
        rintro e w3 ⟨rfl, g, z, h3⟩
        have H3 := hide h3
        clear h3
        go_wp2_with fail
        go_ret2
        exact ⟨by rw [HE.out, if_pos rfl]; rfl, fun h9 => absurd HE.out h9, fun _ => ⟨g, z, H3.out⟩⟩
    · have HE := hide (show creE s n = 17 by
        unfold creE
        rw [if_neg (by rw [← HCE.out, H0.out]; simp), if_pos (hasN_true.2 ⟨x, hx, hxn⟩)])
      clear hx hxn
      go_wp2_with fail
      go_ret2
      exact Created.same HE.out (by decide) ⟨b, rfl, H2.out⟩
  · have y0 : (ce != 0) = true := by simp [h0]
    have HE := hide (show creE s n = ce by
      unfold creE
      rw [if_pos (by rw [← HCE.out]; exact h0), HCE.out])
    have H0 := hide h0
    clear h0
    go_enter Tryz.func36, Tryz.ntmps36
    go_wp2_with (first | (go_at_call 44; refine (Calls.mono HN.out) ?_; rintro e w' ⟨rfl, rfl⟩) | (go_at_call 48; refine (Calls.mono HC.out) ?_; rintro e w1 ⟨rfl, b1⟩))
    go_ret2
    exact Created.same HE.out H0.out ⟨b, rfl, H.out.below b1⟩
end
end Go.Proofs.YtnbhejbpofjamaaGreatDoor
namespace Go.Proofs.YtnbhejbpofjamaaGreatDoor
open Go.RowKit

/-- The table of powers, as its initialiser lays it. -/
def Pow (w : World) : Prop := Lib.TabIs Tryz.prog w "internal/strconv.uint64pow10" .u64 Lib.pow10Tab
theorem Pow.below {w w' : World} (h : Pow w) (hb : Below w.heap.size w w') : Pow w' := by
  obtain ⟨g, hg⟩ : ∃ g : Nat, Tryz.prog.globalNamed "internal/strconv.uint64pow10" = some g := ⟨2, by kernel_rfl⟩
  unfold Pow Lib.TabIs World.var? at h ⊢
  rw [hg] at h ⊢
  simp only [Option.bind_some] at h ⊢
  cases hh : w.heap[g]? with
  | none => rw [hh] at h; simp at h
  | some o =>
    rw [hb.block g (lt_of_heap hh), hh]
    rw [hh] at h
    exact h
theorem itoa_any (k : Nat) (hk : k ≤ 1000000) (w : World) (hP : Pow w) : Calls Tryz.prog 49 #[.int .i64 (k : Int)] w fun e w' => e = .returned (.string ⟨(Lib.decDigits k).toArray⟩) ∧ Below w.heap.size w w' := by
  refine (Tryz.strconv_Itoa (k : Int) (by omega) (by omega) w hP).mono ?_
  rintro e w' ⟨rfl, q, os, rfl⟩
  refine ⟨?_, Lib.below_grow _ _ (Nat.le_refl _) _ _⟩
  unfold Lib.itoa
  rw [if_neg (by omega), Int.toNat_natCast]
/-- The next name. -/
theorem nmB_next (s : ByteArray) (k : Nat) : s ++ ⟨#[60]⟩ ++ ⟨(Lib.decDigits (k + 2)).toArray⟩ ++ ⟨#[62]⟩ = nmB s (k + 1) := by
  have e : ∀ a b : ByteArray, (a ++ b).data = a.data ++ b.data := fun a b => ByteArray.data_append ..
  have h : (s ++ ⟨#[60]⟩ ++ ⟨(Lib.decDigits (k + 2)).toArray⟩ ++ ⟨#[62]⟩ : ByteArray).data = (nmB s (k + 1)).data := by
    rw [e, e, e]
    apply Array.toList_inj.1
    rw [nmB_data]
    unfold nmL
    rw [if_neg (by omega)]
    simp
  cases h1 : (s ++ ⟨#[60]⟩ ++ ⟨(Lib.decDigits (k + 2)).toArray⟩ ++ ⟨#[62]⟩ : ByteArray) with
  | mk d1 => cases h2 : nmB s (k + 1) with
    | mk d2 => rw [h1, h2] at h; exact congrArg ByteArray.mk h
/-- What Unique returns. -/
def UniRes (s : Bst) (n : ByteArray) (w : World) (e : Ending) (w' : World) : Prop :=
  Below w.heap.size w w' ∧ (chkE n ≠ 0 → e = .returned (.tuple #[.string ⟨#[]⟩, .int .i64 (chkE n)])) ∧
  (chkE n = 0 → ∃ k, (∀ j, j < k → hasN s.all (nmB n j) = true) ∧ hasN s.all (nmB n k) = false ∧ e = .returned (.tuple #[.string (nmB n k), .int .i64 0]))
theorem used_le {s : Bst} {n : ByteArray} {k : Nat} (h : ∀ j, j < k → hasN s.all (nmB n j) = true) : k ≤ s.all.length := by
  have := taken_le (A := s.all.map (·.name)) (s := n) (k := k) (fun j hj => by
    obtain ⟨x, hx, e⟩ := hasN_true.1 (h j hj)
    exact List.mem_map.2 ⟨x, hx, e⟩)
  simpa using this
section
variable {W w w' : World} {b : Bb} {s : Bst} {R : Heap}
set_option maxRecDepth 100000 in
set_option maxHeartbeats 4000000 in
theorem unique_any (h : BAt W w b s R) (hT : Tabs w) (hP : Pow w) (hm : s.all.length ≤ 500) (n : ByteArray) (hs : n.size < 1000000) :
    Calls Tryz.prog 17 #[.pointer (some ⟨b.sb, 0, none⟩), .string n] w (UniRes s n w) := by
  have HN := hide (bnone_any h)
  have HC := hide (chk_any n w hT (by omega))
  have H := hide h
  have HP := hide hP
  have HM := hide hm
  have HS := hide hs
  obtain ⟨ce, hce⟩ : ∃ ce, ce = chkE n := ⟨_, rfl⟩
  rw [← hce] at HC
  have HCE := hide hce
  clear h hT hP hm hs hce
  by_cases h0 : ce = 0
  · have y0 : (ce != 0) = false := by simp [h0]
    have H0 := hide h0
    clear h0
    go_enter Tryz.func17, Tryz.ntmps17
    go_wp2_with (first | (go_at_call 44; refine (Calls.mono HN.out) ?_; rintro e w' ⟨rfl, rfl⟩) | (go_at_call 48; refine (Calls.mono HC.out) ?_; rintro e w1 ⟨rfl, b1⟩))
    have HB1 := hide b1
    clear b1 HC HN
    go_loopw [7, 8] (fun o i wr => ∃ k : Nat, o = .string (nmB n k) ∧ i = .int .i64 ((k : Int) + 2) ∧ (∀ j, j < k → hasN s.all (nmB n j) = true) ∧ Below w.heap.size w wr) (fun _ i _ => s.all.length + 3 - (RowKit.intOf i).toNat)
    case atStart => exact ⟨0, by rw [nmB_zero], rfl, fun j hj => absurd hj (Nat.not_lt_zero _), HB1.out⟩
    case round =>
      obtain ⟨k, rfl, rfl, hu, hb⟩ := hrel
      have HU := hide hu
      have HB := hide hb
      have HR := hide (H.out.below hb)
      clear hu hb
      go_wp2_with fail
      refine (Calls.mono (find_any HR.out (nmB n k))) ?_
      rintro e w2 ⟨b2, hr⟩
      have HB2 := hide (HB.out.trans (b2.mono HB.out.size))
      clear b2
      rcases hr with ⟨rfl, hr⟩ | ⟨x, hx, hxn, rfl⟩
      · have HF := hide (hasN_false.2 hr)
        clear hr
        go_wp2_with fail
        go_ret2
        refine ⟨HB2.out, fun h9 => absurd (HCE.out.symm.trans H0.out) h9, fun _ => ⟨k, HU.out, HF.out, rfl⟩⟩
      · have HT1 := hide (hasN_true.2 ⟨x, hx, hxn⟩)
        have HU2 := hide (show ∀ j, j < k + 1 → hasN s.all (nmB n j) = true from fun j hj => by
          rcases Nat.lt_succ_iff_lt_or_eq.1 hj with h1 | rfl
          · exact HU.out j h1
          · exact HT1.out)
        have HLE := hide (used_le HU2.out)
        have hk5 : (k : Int) ≤ 500 := by have := HLE.out; have := HM.out; omega
        have HIT := hide (itoa_any (k + 2) (by omega) w2 (HP.out.below HB2.out))
        rw [show ((k + 2 : Nat) : Int) = (k : Int) + 2 by omega] at HIT
        obtain ⟨ds, hds⟩ : ∃ ds : ByteArray, ds = ⟨(Lib.decDigits (k + 2)).toArray⟩ := ⟨_, rfl⟩
        rw [← hds] at HIT
        have hz0 : ds.size ≤ 3 := by
          have := dec_len (u := k + 2) (by omega)
          rw [hds]
          show (Lib.decDigits (k + 2)).toArray.size ≤ 3
          simpa using this
        have hz1 : n.size + 1 ≤ 9223372036854775807 := by have := HS.out; omega
        have hz2 : n.size + 1 + ds.size ≤ 9223372036854775807 := by have := HS.out; omega
        have hz3 : n.size + 1 + ds.size + 1 ≤ 9223372036854775807 := by have := HS.out; omega
        have HNX := hide (show n ++ ⟨#[60]⟩ ++ ds ++ ⟨#[62]⟩ = nmB n (k + 1) by rw [hds]; exact nmB_next n k)
        clear hx hxn hds hz0
        go_wp2_with fail
        refine (Calls.mono HIT.out) ?_
        rintro e w3 ⟨rfl, b3⟩
        have HB3 := hide (HB2.out.trans (b3.mono HB2.out.size))
        clear b3
        go_wp2_with fail
        go_roundw
        case rel => exact ⟨k + 1, by rw [HNX.out], by go_num, HU2.out, HB3.out⟩
        case measure => have := HLE.out; simp [RowKit.intOf]; omega
  · have y0 : (ce != 0) = true := by simp [h0]
    have H0 := hide h0
    clear h0
    go_enter Tryz.func17, Tryz.ntmps17
    go_wp2_with (first | (go_at_call 44; refine (Calls.mono HN.out) ?_; rintro e w' ⟨rfl, rfl⟩) | (go_at_call 48; refine (Calls.mono HC.out) ?_; rintro e w1 ⟨rfl, b1⟩))
    go_ret2
    exact ⟨b1, fun _ => by rw [← HCE.out]; rfl, fun h9 => absurd (HCE.out.trans h9) H0.out⟩
end
end Go.Proofs.YtnbhejbpofjamaaGreatDoor
namespace Go.Proofs.YtnbhejbpofjamaaGreatDoor
open Go.RowKit

section
variable {W w w' : World} {b : Bb} {s : Bst} {R : Heap}
set_option maxRecDepth 100000 in
set_option maxHeartbeats 2000000 in
theorem switch_any (h : BAt W w b s R) (ok : s.Ok) (k : Int) (hl : s.order.length ≤ 1000000) : Calls Tryz.prog 39 #[.pointer (some ⟨b.sb, 0, none⟩), .int .i64 k] w (Moved W b.sb s (swiS s k.toNat) R (knownE s.all k)) := by
  have HK := hide (enter_any h ok k)
  rcases known_split s k with he | he
  · obtain ⟨j, rfl, hj, _⟩ := known_nat ok he
    have HJ := hide hj
    have HL := hide hl
    rw [he] at HK ⊢
    clear h ok he hj hl
    go_enter Tryz.func39, Tryz.ntmps39
    go_wp2_with fail
    refine (Calls.mono HK.out) ?_
    rintro e w1 ⟨rfl, s1, ⟨b1, hb1, h1⟩, _, hs1⟩
    have hs1' := hs1 rfl
    rw [Int.toNat_natCast] at hs1'
    subst hs1'
    have HV := hide (leave_any h1 j HJ.out HL.out)
    rw [hb1] at HV
    clear h1 hb1 hs1 HK b1
    go_wp2_with fail
    refine (Calls.mono HV.out) ?_
    rintro e w2 ⟨rfl, ⟨sb2, mb2, ov2⟩, hb2, h2⟩
    simp only [] at hb2
    subst hb2
    obtain ⟨A, c, hov, _, _⟩ := h2.sl.form
    simp only [] at hov
    subst hov
    have d1 : w2.cell? ⟨b.sb, 1, none⟩ = some (.slice A (s.order.erase j).length c) := h2.c1
    have HH := hide (h2.skip (.cells #[.int .i64 (j : Int)] 3))
    have hlt : (s.order.erase j).length ≤ 1000000 := Nat.le_trans (List.length_erase_le ..) HL.out
    have HINS := hide (ins_some (s.order.erase j) [j] 0 (.slice A (s.order.erase j).length c) (.slice (some ⟨w2.heap.size, 0, none⟩) 1 1) (w2.alloc (.cells #[.int .i64 (j : Int)] 3)) (h2.sl.alloc _)
      (by have h9 := Sl.new w2 3 1 #[.int .i64 (j : Int)] 1 1 (Nat.le_refl _) (by simp [maxLen]) (by simp); exact (show Sl (w2.alloc (.cells #[.int .i64 (j : Int)] 3)) 3 1 (.slice (some ⟨w2.heap.size, 0, none⟩) 1 1) 1 [.int .i64 (j : Int)] from by simpa using h9))
      (by intro g hg; have := h2.sl.lt g hg; simp [Value.ownBlock]; omega) (Nat.zero_le _) hlt (by simp) (by simp))
    simp only [List.take_zero, List.nil_append, List.drop_zero, List.singleton_append] at HINS
    have HD := hide d1
    obtain ⟨nl, hnl⟩ : ∃ nl, nl = (s.order.erase j).length := ⟨_, rfl⟩
    have HNL := hide hnl
    rw [← hnl] at HINS d1
    clear h2 hlt hnl HV HD
    have d1' : (w2.alloc (.cells #[.int .i64 (j : Int)] 3)).cell? ⟨b.sb, 1, none⟩ = some (.slice A nl c) := cell_keep d1 (below_box w2 _)
    go_wp2_with fail
    refine (Calls.mono HINS.out) ?_
    rintro e w3 ⟨v3, rfl, hs3, ho3, hv3⟩
    obtain ⟨A3, c3, rfl, _, _⟩ := hs3.form
    obtain ⟨x1, x2⟩ := HH.out.reorder hs3 (by show Only (fun i => (Value.slice A (s.order.erase j).length c).ownBlock = some i) _ _; rw [← HNL.out]; exact ho3) (by show _ = (Value.slice A (s.order.erase j).length c).ownBlock ∨ _; rw [← HNL.out]; exact hv3)
    have HF := hide x2
    have f1 := x1.frozen 1
    have e1 : w3.cell? ⟨b.sb, 1, none⟩ = some (.slice A (s.order.erase j).length c) := (x1.cell 1).trans rfl
    clear hs3 ho3 hv3 x1 x2 HINS d1 d1'
    go_wp2_with fail
    go_ret
    refine ⟨rfl, _, ⟨Bb.withOv ⟨b.sb, mb2, .slice A (s.order.erase j).length c⟩ _, rfl, HF.out⟩, fun h0 => absurd rfl h0, fun _ => rfl⟩
  · have H := hide h
    rw [he] at HK ⊢
    clear h ok he hl
    go_enter Tryz.func39, Tryz.ntmps39
    go_wp2_with fail
    refine (Calls.mono HK.out) ?_
    rintro e w1 ⟨rfl, s1, h1, hs1, _⟩
    obtain rfl := hs1 (by decide)
    have H1 := hide h1
    clear h1 hs1
    go_wp2_with fail
    go_ret
    exact ⟨rfl, s1, H1.out, fun _ => rfl, fun h0 => absurd h0 (by decide)⟩
end
end Go.Proofs.YtnbhejbpofjamaaGreatDoor
