/- A set of buffers: Unique. No condition but those written. -/
import Derived.Test.YtnbhejbpofjamaaDoorBfi
import Derived.Lib.AppendIntMem
namespace Go.Proofs.YtnbhejbpofjamaaDoor
open Go.RowKit

/-- The table of powers, as its initialiser lays it. -/
def Pow (w : World) : Prop := Lib.TabIs Tryd.prog w "internal/strconv.uint64pow10" .u64 Lib.pow10Tab
theorem Pow.below {w w' : World} (h : Pow w) (hb : Below w.heap.size w w') : Pow w' := by
  obtain ⟨g, hg⟩ : ∃ g : Nat, Tryd.prog.globalNamed "internal/strconv.uint64pow10" = some g := ⟨2, by kernel_rfl⟩
  unfold Pow Lib.TabIs World.var? at h ⊢
  rw [hg] at h ⊢
  simp only [Option.bind_some] at h ⊢
  cases hh : w.heap[g]? with
  | none => rw [hh] at h; simp at h
  | some o =>
    rw [hb.block g (lt_of_heap hh), hh]
    rw [hh] at h
    exact h
theorem itoa_any (k : Nat) (hk : k ≤ 1000000) (w : World) (hP : Pow w) : Calls Tryd.prog 27 #[.int .i64 (k : Int)] w fun e w' => e = .returned (.string ⟨(Lib.decDigits k).toArray⟩) ∧ Below w.heap.size w w' := by
  refine (Tryd.strconv_Itoa (k : Int) (by omega) (by omega) w hP).mono ?_
  rintro e w' ⟨rfl, q, os, rfl⟩
  refine ⟨?_, Lib.below_grow _ _ (Nat.le_refl _) _ _⟩
  unfold Lib.itoa
  rw [if_neg (by omega), Int.toNat_natCast]
/-- The next name. -/
theorem nmB_next (s : ByteArray) (k : Nat) : s ++ ⟨#[60]⟩ ++ ⟨(Lib.decDigits (k + 2)).toArray⟩ ++ ⟨#[62]⟩ = nmB s (k + 1) := by
  have e : ∀ a b : ByteArray, (a ++ b).data = a.data ++ b.data := fun a b => ByteArray.data_append ..
  have h : (s ++ ⟨#[60]⟩ ++ ⟨(Lib.decDigits (k + 2)).toArray⟩ ++ ⟨#[62]⟩ : ByteArray).data = (nmB s (k + 1)).data := by
    rw [e, e, e]
    apply Array.toList_inj.1
    rw [nmB_data]
    unfold nmL
    rw [if_neg (by omega)]
    simp
  cases h1 : (s ++ ⟨#[60]⟩ ++ ⟨(Lib.decDigits (k + 2)).toArray⟩ ++ ⟨#[62]⟩ : ByteArray) with
  | mk d1 => cases h2 : nmB s (k + 1) with
    | mk d2 => rw [h1, h2] at h; exact congrArg ByteArray.mk h
/-- What Unique returns. -/
def UniRes (s : Bst) (n : ByteArray) (w : World) (e : Ending) (w' : World) : Prop :=
  Below w.heap.size w w' ∧ (chkE n ≠ 0 → e = .returned (.tuple #[.string ⟨#[]⟩, .int .i64 (chkE n)])) ∧
  (chkE n = 0 → ∃ k, (∀ j, j < k → hasN s.all (nmB n j) = true) ∧ hasN s.all (nmB n k) = false ∧ e = .returned (.tuple #[.string (nmB n k), .int .i64 0]))
theorem used_le {s : Bst} {n : ByteArray} {k : Nat} (h : ∀ j, j < k → hasN s.all (nmB n j) = true) : k ≤ s.all.length := by
  have := taken_le (A := s.all.map (·.name)) (s := n) (k := k) (fun j hj => by
    obtain ⟨x, hx, e⟩ := hasN_true.1 (h j hj)
    exact List.mem_map.2 ⟨x, hx, e⟩)
  simpa using this
section
variable {W w w' : World} {b : Bb} {s : Bst} {R : Heap}
set_option maxRecDepth 100000 in
set_option maxHeartbeats 4000000 in
theorem unique_any (h : BAt W w b s R) (hT : Tabs w) (hP : Pow w) (hm : s.all.length ≤ 500) (n : ByteArray) (hs : n.size < 1000000) :
    Calls Tryd.prog 8 #[.pointer (some ⟨b.sb, 0, none⟩), .string n] w (UniRes s n w) := by
  have HN := hide (bnone_any h)
  have HC := hide (chk_any n w hT (by omega))
  have H := hide h
  have HP := hide hP
  have HM := hide hm
  have HS := hide hs
  obtain ⟨ce, hce⟩ : ∃ ce, ce = chkE n := ⟨_, rfl⟩
  rw [← hce] at HC
  have HCE := hide hce
  clear h hT hP hm hs hce
  by_cases h0 : ce = 0
  · have y0 : (ce != 0) = false := by simp [h0]
    have H0 := hide h0
    clear h0
    go_enter Tryd.func8, Tryd.ntmps8
    go_wp2_with (first | (go_at_call 24; refine (Calls.mono HN.out) ?_; rintro e w' ⟨rfl, rfl⟩) | (go_at_call 25; refine (Calls.mono HC.out) ?_; rintro e w1 ⟨rfl, b1⟩))
    have HB1 := hide b1
    clear b1 HC HN
    go_loopw [7, 8] (fun o i wr => ∃ k : Nat, o = .string (nmB n k) ∧ i = .int .i64 ((k : Int) + 2) ∧ (∀ j, j < k → hasN s.all (nmB n j) = true) ∧ Below w.heap.size w wr) (fun _ i _ => s.all.length + 3 - (RowKit.intOf i).toNat)
    case atStart => exact ⟨0, by rw [nmB_zero], rfl, fun j hj => absurd hj (Nat.not_lt_zero _), HB1.out⟩
    case round =>
      obtain ⟨k, rfl, rfl, hu, hb⟩ := hrel
      have HU := hide hu
      have HB := hide hb
      have HR := hide (H.out.below hb)
      clear hu hb
      go_wp2_with fail
      refine (Calls.mono (find_any HR.out (nmB n k))) ?_
      rintro e w2 ⟨b2, hr⟩
      have HB2 := hide (HB.out.trans (b2.mono HB.out.size))
      clear b2
      rcases hr with ⟨rfl, hr⟩ | ⟨x, hx, hxn, rfl⟩
      · have HF := hide (hasN_false.2 hr)
        clear hr
        go_wp2_with fail
        go_ret2
        refine ⟨HB2.out, fun h9 => absurd (HCE.out.symm.trans H0.out) h9, fun _ => ⟨k, HU.out, HF.out, rfl⟩⟩
      · have HT1 := hide (hasN_true.2 ⟨x, hx, hxn⟩)
        have HU2 := hide (show ∀ j, j < k + 1 → hasN s.all (nmB n j) = true from fun j hj => by
          rcases Nat.lt_succ_iff_lt_or_eq.1 hj with h1 | rfl
          · exact HU.out j h1
          · exact HT1.out)
        have HLE := hide (used_le HU2.out)
        have hk5 : (k : Int) ≤ 500 := by have := HLE.out; have := HM.out; omega
        have HIT := hide (itoa_any (k + 2) (by omega) w2 (HP.out.below HB2.out))
        rw [show ((k + 2 : Nat) : Int) = (k : Int) + 2 by omega] at HIT
        obtain ⟨ds, hds⟩ : ∃ ds : ByteArray, ds = ⟨(Lib.decDigits (k + 2)).toArray⟩ := ⟨_, rfl⟩
        rw [← hds] at HIT
        have hz0 : ds.size ≤ 3 := by
          have := dec_len (u := k + 2) (by omega)
          rw [hds]
          show (Lib.decDigits (k + 2)).toArray.size ≤ 3
          simpa using this
        have hz1 : n.size + 1 ≤ 9223372036854775807 := by have := HS.out; omega
        have hz2 : n.size + 1 + ds.size ≤ 9223372036854775807 := by have := HS.out; omega
        have hz3 : n.size + 1 + ds.size + 1 ≤ 9223372036854775807 := by have := HS.out; omega
        have HNX := hide (show n ++ ⟨#[60]⟩ ++ ds ++ ⟨#[62]⟩ = nmB n (k + 1) by rw [hds]; exact nmB_next n k)
        clear hx hxn hds hz0
        go_wp2_with fail
        refine (Calls.mono HIT.out) ?_
        rintro e w3 ⟨rfl, b3⟩
        have HB3 := hide (HB2.out.trans (b3.mono HB2.out.size))
        clear b3
        go_wp2_with fail
        go_roundw
        case rel => exact ⟨k + 1, by rw [HNX.out], by go_num, HU2.out, HB3.out⟩
        case measure => have := HLE.out; simp [RowKit.intOf]; omega
  · have y0 : (ce != 0) = true := by simp [h0]
    have H0 := hide h0
    clear h0
    go_enter Tryd.func8, Tryd.ntmps8
    go_wp2_with (first | (go_at_call 24; refine (Calls.mono HN.out) ?_; rintro e w' ⟨rfl, rfl⟩) | (go_at_call 25; refine (Calls.mono HC.out) ?_; rintro e w1 ⟨rfl, b1⟩))
    go_ret2
    exact ⟨b1, fun _ => by rw [← HCE.out]; rfl, fun h9 => absurd (HCE.out.trans h9) H0.out⟩
end
end Go.Proofs.YtnbhejbpofjamaaDoor
