/- A set of buffers: Bury; more methods on a set of the law's own. No condition but those written. -/
import Derived.Test.YtnbhejbpofjamaaDoorBfo
import Derived.Test.YtnbhejbpofjamaaDoorBft
namespace Go.Proofs.YtnbhejbpofjamaaDoor
open Go.RowKit

section
variable {W w w' : World} {b : Bb} {s : Bst} {R : Heap}
set_option maxRecDepth 100000 in
set_option maxHeartbeats 4000000 in
theorem bury_any (h : BAt W w b s R) (ok : s.Ok) (k : Int) (hl : s.order.length ≤ 1000000) : Calls Tryd.prog 19 #[.pointer (some ⟨b.sb, 0, none⟩), .int .i64 k] w (Moved W b.sb s (burS s k.toNat) R (knownE s.all k)) := by
  have HK := hide (known_any h k)
  rcases known_split s k with he | he
  · obtain ⟨j, rfl, hj, _⟩ := known_nat ok he
    have HV := hide (leave_any h j hj hl)
    have HJ := hide hj
    have hlt : (s.order.erase j).length ≤ 1000000 := Nat.le_trans (List.length_erase_le ..) hl
    have HL := hide hlt
    obtain ⟨i0, hi, hi1, hi2, hi3⟩ := info_parts info_int
    have HI := hide hi
    have HI1 := hide hi1
    have HI2 := hide hi2
    have HI3 := hide hi3
    rw [he] at HK ⊢
    clear h ok he hj hl hlt hi hi1 hi2 hi3
    go_enter Tryd.func19, Tryd.ntmps19
    go_wp2_with (go_at_call 28; refine (Calls.mono HK.out) ?_; rintro e w' ⟨rfl, rfl⟩)
    refine (Calls.mono HV.out) ?_
    rintro e w8 ⟨rfl, ⟨sb2, mb, ov⟩, hb2, h8⟩
    simp only [] at hb2
    subst hb2
    obtain ⟨A, c, hov, _, _⟩ := h8.sl.form
    simp only [] at hov
    subst hov
    have d1 : w8.cell? ⟨b.sb, 1, none⟩ = some (.slice A (s.order.erase j).length c) := h8.c1
    have h8' : BAt W w8 ⟨b.sb, mb, .slice A (s.order.erase j).length c⟩ (leaveS s j) R := h8
    have H8 := hide h8'
    clear h8'
    have HAP := hide (fun o => H8.out.skip o)
    obtain ⟨nl, hnl⟩ : ∃ nl, nl = (s.order.erase j).length := ⟨_, rfl⟩
    rw [← hnl] at d1
    have HNL := hide hnl
    have d1' : (w8.alloc (.cells #[.int .i64 (j : Int)] 3)).cell? ⟨b.sb, 1, none⟩ = some (.slice A nl c) := cell_keep d1 (below_box w8 _)
    clear hnl h8 HV
    go_wp2_with (at_builtin; refine wpList_append_sl rfl (.tmp 18) (.tmp 20) 41 rfl 3 i0 (.int .i64 0) 1 8 Tryd.underlying41 HI.out HI1.out HI2.out HI3.out rfl _ nl (ints (s.order.erase j)) rfl (by rw [HNL.out]; exact (HAP.out _).sl) _ rfl 1 [_] (rd_one _ _ _) ?one ?b1 ?b2 ?_)
    case one => intro u hu; rcases List.mem_singleton.1 hu with rfl; rfl
    case b1 => have := HL.out; have := HNL.out; unfold maxLen; omega
    case b2 => have := HL.out; have := HNL.out; omega
    intro v2 w9 hs ho hv
    obtain ⟨A2, c2, rfl, _, _⟩ := hs.form
    have hs2 : IntSl w9 (.slice A2 (nl + 1) c2) (s.order.erase j ++ [j]) := by
      unfold IntSl
      rw [List.length_append, ← HNL.out, ints_snoc]
      exact hs
    obtain ⟨x1, x2⟩ := (HAP.out (.cells #[.int .i64 (j : Int)] 3)).reorder hs2 (by rw [← HNL.out]; exact ho) (by rw [← HNL.out]; rcases hv with h | h; exact .inl h; exact .inr (h.trans (congrArg some (World.size_alloc ..).symm)))
    have f1 : w9.frozen? ⟨b.sb, 1, none⟩ = false := x1.frozen 1
    have e1 : w9.cell? ⟨b.sb, 1, none⟩ = some (.slice A (s.order.erase j).length c) := (x1.cell 1).trans rfl
    have HF := hide x2
    clear hs ho hv hs2 x1 x2 d1 d1'
    go_wp2
    go_ret
    exact ⟨rfl, _, ⟨Bb.withOv ⟨b.sb, mb, .slice A (s.order.erase j).length c⟩ _, rfl, HF.out⟩, fun h0 => absurd rfl h0, fun _ => rfl⟩
  · have H := hide h
    rw [he] at HK ⊢
    clear h ok he hl
    go_enter Tryd.func19, Tryd.ntmps19
    go_wp2_with (go_at_call 28; refine (Calls.mono HK.out) ?_; rintro e w' ⟨rfl, rfl⟩)
    go_ret
    exact ⟨rfl, s, ⟨b, rfl, H.out⟩, fun _ => rfl, fun h0 => absurd h0 (by decide)⟩
end
section
variable {W w w' : World} {sb : Nat} {s : Bst}
theorem LS.bury (h : LS W w sb s) (k : Int) : Calls Tryd.prog 19 #[.pointer (some ⟨sb, 0, none⟩), .int .i64 k] w fun e w' => e = .returned (.int .i64 (knownE s.all k)) ∧ LS W w' sb (if knownE s.all k = 0 then burS s k.toNat else s) := by
  have hl := h.len
  obtain ⟨b, rfl, h1⟩ := h.at_
  refine (bury_any h1 h.ok k (by omega)).mono ?_
  rintro e w' ⟨rfl, s', h2, h3, h4⟩
  refine ⟨rfl, ?_⟩
  by_cases he : knownE s.all k = 0
  · rw [if_pos he]
    obtain rfl := h4 he
    obtain ⟨j, rfl, hj, _⟩ := known_nat h.ok he
    exact ⟨h2, by rw [Int.toNat_natCast]; exact h.ok.burS hj, h.nx⟩
  · rw [if_neg he]
    obtain rfl := h3 he
    exact ⟨h2, h.ok, h.nx⟩
theorem Bst.Ok.withCur {s : Bst} (h : s.Ok) (n : Nat) : (s.withCur n).Ok := ⟨h.nod, h.mem, h.onod, h.lt⟩
theorem LS.enter (h : LS W w sb s) (k : Int) : Calls Tryd.prog 16 #[.pointer (some ⟨sb, 0, none⟩), .int .i64 k] w fun e w' => e = .returned (.int .i64 (knownE s.all k)) ∧ LS W w' sb (if knownE s.all k = 0 then s.withCur k.toNat else s) := by
  obtain ⟨b, rfl, h1⟩ := h.at_
  refine (enter_any h1 h.ok k).mono ?_
  rintro e w' ⟨rfl, s', h2, h3, h4⟩
  refine ⟨rfl, ?_⟩
  by_cases he : knownE s.all k = 0
  · rw [if_pos he]
    obtain rfl := h4 he
    exact ⟨h2, h.ok.withCur _, h.nx⟩
  · rw [if_neg he]
    obtain rfl := h3 he
    exact ⟨h2, h.ok, h.nx⟩
theorem LS.name (h : LS W w sb s) (k : Int) : Calls Tryd.prog 12 #[.pointer (some ⟨sb, 0, none⟩), .int .i64 k] w fun e w' => e = .returned (nameR s k) ∧ w = w' := by
  obtain ⟨b, rfl, h1⟩ := h.at_
  exact name_any h1 k
theorem LS.get (h : LS W w sb s) (k : Int) : Calls Tryd.prog 15 #[.pointer (some ⟨sb, 0, none⟩), .int .i64 k] w fun e w' => e = .returned (getR s k) ∧ w = w' := by
  obtain ⟨b, rfl, h1⟩ := h.at_
  exact get_any h1 k
theorem renS_ids (s : Bst) (k : Int) (n : ByteArray) : (renS s k n).all.map Nb.id = s.all.map Nb.id := by
  show (s.all.map _).map Nb.id = _
  rw [List.map_map]
  refine List.map_congr_left fun x _ => ?_
  simp only [Function.comp]
  split <;> rfl
theorem Bst.Ok.renS {s : Bst} (h : s.Ok) (k : Int) (n : ByteArray) : (renS s k n).Ok := h.ofOrder (renS_ids s k n) (fun _ => Iff.rfl) h.onod rfl
theorem LS.rename (h : LS W w sb s) (hT : Tabs W) (hu : (s.all.map Nb.name).Nodup) (k : Int) (n : ByteArray) (hs : n.size < 1000000) : Calls Tryd.prog 14 #[.pointer (some ⟨sb, 0, none⟩), .int .i64 k, .string n] w fun e w' => e = .returned (.int .i64 (renE s k n)) ∧ LS W w' sb (if renE s k n = 0 then renS s k n else s) := by
  obtain ⟨b, rfl, h1⟩ := h.at_
  refine (rename_any h1 (hT.below h.bel) h.ok hu k n (by omega)).mono ?_
  rintro e w' ⟨rfl, h2⟩
  refine ⟨rfl, h2, ?_, ?_⟩
  · split
    · exact h.ok.renS k n
    · exact h.ok
  · split
    · exact h.nx
    · exact h.nx
theorem LS.create_bad (h : LS W w sb s) (hT : Tabs W) (hn : s.next < 500) (n : ByteArray) (hs : n.size < 1000000) {e0 : Int} (he : creE s n = e0) (h0 : e0 ≠ 0) : Calls Tryd.prog 9 #[.pointer (some ⟨sb, 0, none⟩), .string n] w fun e w' =>
    e = .returned (.tuple #[.int .i64 0, .int .i64 e0]) ∧ LS W w' sb s := by
  subst he
  refine (h.create hT hn n hs).mono ?_
  rintro e w' ⟨rfl, g, bp, h2⟩
  rw [if_neg h0] at h2 ⊢
  exact ⟨rfl, h2⟩
theorem LS.create_ok (h : LS W w sb s) (hT : Tabs W) (hn : s.next < 500) (n : ByteArray) (hs : n.size < 1000000) {j : Nat} (he : creE s n = 0) (hj : s.next = j) : Calls Tryd.prog 9 #[.pointer (some ⟨sb, 0, none⟩), .string n] w fun e w' =>
    e = .returned (.tuple #[.int .i64 (j : Int), .int .i64 0]) ∧ ∃ g bp, LS W w' sb (addS s n g bp) := by
  subst hj
  refine (h.create hT hn n hs).mono ?_
  rintro e w' ⟨rfl, g, bp, h2⟩
  rw [if_pos he] at h2 ⊢
  rw [he]
  exact ⟨rfl, g, bp, h2⟩
theorem LS.unique_bad (h : LS W w sb s) (hT : Tabs W) (hP : Pow W) (n : ByteArray) (hs : n.size < 1000000) {e0 : Int} (he : chkE n = e0) (h0 : e0 ≠ 0) : Calls Tryd.prog 8 #[.pointer (some ⟨sb, 0, none⟩), .string n] w fun e w' => e = .returned (.tuple #[.string ⟨#[]⟩, .int .i64 e0]) ∧ LS W w' sb s := by
  subst he
  refine (h.unique hT hP n hs).mono ?_
  rintro e w' ⟨h2, h3, _⟩
  exact ⟨h3 h0, h2⟩
theorem LS.unique_ok (h : LS W w sb s) (hT : Tabs W) (hP : Pow W) (n : ByteArray) (hs : n.size < 1000000) (he : chkE n = 0) (k : Nat) (h1 : ∀ j, j < k → hasN s.all (nmB n j) = true) (h2 : hasN s.all (nmB n k) = false) {u : ByteArray} (hu : nmB n k = u) : Calls Tryd.prog 8 #[.pointer (some ⟨sb, 0, none⟩), .string n] w fun e w' => e = .returned (.tuple #[.string u, .int .i64 0]) ∧ LS W w' sb s := by
  subst hu
  refine (h.unique hT hP n hs).mono ?_
  rintro e w' ⟨h3, _, h4⟩
  obtain ⟨i, h5, h6, rfl⟩ := h4 he
  obtain rfl : i = k := by
    rcases Nat.lt_trichotomy i k with hk | hk | hk
    · rw [h1 i hk] at h6; cases h6
    · exact hk
    · rw [h5 k hk] at h2; cases h2
  exact ⟨rfl, h3⟩
end
end Go.Proofs.YtnbhejbpofjamaaDoor
