/- BuffersFull: the plain law and the walk. No condition but those written. -/
import Derived.Test.YtnbhejbpofjamaaDoorBfn
namespace Go.Proofs.YtnbhejbpofjamaaDoor
open Go.RowKit

/-- What Pick returns. -/
def pickZ (n k : Int) : Int := if n.tmod k < 0 then n.tmod k + k else n.tmod k
theorem pickZ_ge {n k : Int} (hk : 0 < k) : 0 ≤ pickZ n k := by
  have := Int.lt_tmod_of_pos n hk
  unfold pickZ
  split <;> omega
theorem pickZ_lt {n k : Int} (hk : 0 < k) : pickZ n k < k := by
  have := Int.tmod_lt_of_pos n hk
  unfold pickZ
  split <;> omega
theorem pick_any (n k : Int) (w : World) (hk : 0 < k) (hk2 : k ≤ 100000) : Calls Tryd.prog 11 #[.int .i64 n, .int .i64 k] w fun e w' => e = .returned (.int .i64 (pickZ n k)) ∧ w = w' := by
  have hz : decide (k ≤ 0) = false := by simp; omega
  have b1 := Int.lt_tmod_of_pos n hk
  have b2 := Int.tmod_lt_of_pos n hk
  by_cases h : n.tmod k < 0
  · have hz2 : decide (n.tmod k < 0) = true := by simpa using h
    have HP := hide (show pickZ n k = n.tmod k + k by unfold pickZ; rw [if_pos h])
    go_enter Tryd.func11, Tryd.ntmps11
    go_wp2
    go_ret
    exact ⟨by rw [HP.out]; rfl, rfl⟩
  · have hz2 : decide (n.tmod k < 0) = false := by simpa using h
    have HP := hide (show pickZ n k = n.tmod k by unfold pickZ; rw [if_neg h])
    go_enter Tryd.func11, Tryd.ntmps11
    go_wp2
    go_ret
    exact ⟨by rw [HP.out]; rfl, rfl⟩

def bB : ByteArray := ⟨#[98]⟩
def scrB : ByteArray := ⟨#[42, 115, 99, 114, 97, 116, 99, 104, 42]⟩
def moreB : ByteArray := ⟨#[109, 111, 114, 101]⟩
/-- The set behind i turns. -/
structure FullS (i : Nat) (s : Bst) : Prop where
  ids : s.all.map Nb.id = List.range (i + 1)
  names : s.all.map Nb.name = scrB :: (List.range i).map (nmB bB)
  next : s.next = i + 1
theorem FullS.length {i : Nat} {s : Bst} (h : FullS i s) : s.all.length = i + 1 := by
  have := congrArg List.length h.ids
  simpa using this
theorem nm_head (j : Nat) : (nmB bB j).data.toList.head? = some 98 := by
  rw [nmB_data]
  unfold nmL
  split
  · rfl
  · rfl
theorem nm_ne {x : ByteArray} {c : UInt8} (hx : x.data.toList.head? = some c) (hc : c ≠ 98) (j : Nat) : nmB bB j ≠ x := by
  intro e
  have := nm_head j
  rw [e, hx] at this
  injection this with this
  exact hc this
theorem hasN_mem {l : List Nb} {n : ByteArray} : hasN l n = true ↔ n ∈ l.map Nb.name := by
  rw [hasN_true, List.mem_map]
theorem FullS.has {i : Nat} {s : Bst} (h : FullS i s) (j : Nat) : hasN s.all (nmB bB j) = true ↔ j < i := by
  rw [hasN_mem, h.names, List.mem_cons, List.mem_map]
  constructor
  · rintro (e | ⟨k, hk, e⟩)
    · exact absurd e (nm_ne (c := 42) rfl (by decide) j)
    · rw [← nmB_inj e]
      exact List.mem_range.1 hk
  · intro hj
    exact .inr ⟨j, List.mem_range.2 hj, rfl⟩
theorem FullS.more {i : Nat} {s : Bst} (h : FullS i s) : hasN s.all moreB = false := by
  cases e : hasN s.all moreB with
  | false => rfl
  | true =>
    rw [hasN_mem, h.names, List.mem_cons, List.mem_map] at e
    rcases e with e | ⟨k, _, e⟩
    · exact absurd e (by decide)
    · exact absurd e (nm_ne (c := 109) rfl (by decide) k)
theorem FullS.unique {i k : Nat} {s : Bst} (h : FullS i s) (h1 : ∀ j, j < k → hasN s.all (nmB bB j) = true) (h2 : hasN s.all (nmB bB k) = false) : k = i := by
  rcases Nat.lt_trichotomy k i with hk | hk | hk
  · rw [(h.has k).2 hk] at h2
    cases h2
  · exact hk
  · exact absurd ((h.has i).1 (h1 i hk)) (Nat.lt_irrefl _)
theorem b_asc : ∀ b ∈ bB.data.toList, b.toNat < 128 := by decide
theorem nm_chk {j : Nat} (hj : j < 900) : chkE (nmB bB j) = 0 := by
  have h1 := nmB_size bB j hj
  have h2 : (nmB bB j).size ≠ 0 := by
    intro e
    have h3 := nm_head j
    have h4 : (nmB bB j).data.toList.length = 0 := by rw [Array.length_toList]; exact e
    rw [List.eq_nil_of_length_eq_zero h4] at h3
    cases h3
  have h5 : bB.size = 1 := rfl
  unfold chkE
  rw [if_neg (by rw [valid_asc (nm_asc b_asc j)]; simp), if_neg h2, if_neg (by rw [len_asc (nm_asc b_asc j)]; omega)]
theorem FullS.cre {i : Nat} {s : Bst} (h : FullS i s) (hi : i < 199) : creE s (nmB bB i) = 0 := by
  unfold creE
  rw [if_neg (by rw [nm_chk (by omega)]; simp), if_neg (by rw [h.has]; omega), if_neg (by rw [h.length]; omega)]
theorem FullS.add {i : Nat} {s : Bst} (h : FullS i s) (g bp : Nat) : FullS (i + 1) (addS s (nmB bB i) g bp) := by
  refine ⟨?_, ?_, ?_⟩
  · show (s.all ++ [(⟨s.next, g, bp, nmB bB i⟩ : Nb)]).map Nb.id = _
    rw [List.map_append, h.ids, List.range_succ (n := i + 1), h.next]
    rfl
  · show (s.all ++ [(⟨s.next, g, bp, nmB bB i⟩ : Nb)]).map Nb.name = _
    rw [List.map_append, h.names, List.range_succ, List.map_append]
    rfl
  · show s.next + 1 = _
    rw [h.next]
theorem full_start (g bp : Nat) : FullS 0 (start 1 2 3 g bp) := ⟨rfl, rfl, rfl⟩
theorem chk_more : chkE moreB = 0 := by kernel_rfl
theorem FullS.full {s : Bst} (h : FullS 199 s) : creE s moreB = 7 := by
  unfold creE
  rw [if_neg (by rw [chk_more]; simp), if_neg (by rw [h.more]; simp), if_pos (by rw [h.length]; omega)]
theorem FullS.kill {s : Bst} (h : FullS 199 s) (ok : s.Ok) {p : Nat} (hp : p < 200) : kilE s (p : Int) = 0 := by
  have hk : knownE s.all (p : Int) = 0 := known_of ok ((ok.mem p).2 (by rw [h.ids]; exact List.mem_range.2 (by omega)))
  unfold kilE
  rw [hk, if_neg (by simp), if_neg (by rw [h.length]; omega)]
theorem FullS.killed {s : Bst} (h : FullS 199 s) {p : Nat} (hp : p < 200) : creE (kilS s p) moreB = 0 ∧ (kilS s p).next = 200 ∧ (kilS s p).all.length = 199 := by
  have hl : (kilS s p).all.length = 199 := by
    have h1 : ((kilS s p).all.map Nb.id).length = (s.all.map Nb.id).length - 1 := by
      show ((delB s.all (p : Int)).map Nb.id).length = _
      rw [delB_ids, List.length_erase_of_mem (by rw [h.ids]; exact List.mem_range.2 (by omega))]
    rw [List.length_map, List.length_map, h.length] at h1
    exact h1
  refine ⟨?_, h.next, hl⟩
  have h2 : hasN (kilS s p).all moreB = false := by
    rw [hasN_false]
    intro x hx
    exact hasN_false.1 h.more x ((delB_sub s.all (p : Int)).subset hx)
  unfold creE
  rw [if_neg (by rw [chk_more]; simp), if_neg (by rw [h2]; simp), if_neg (by rw [hl]; omega)]
/-- The number that comes next, read off the world. -/
def nextOf (sb : Nat) (w : World) : Nat := match w.cell? ⟨sb, 3, none⟩ with
  | some v => (intOf v).toNat
  | none => 0
theorem LS.nextOf {W w : World} {sb : Nat} {s : Bst} (h : LS W w sb s) : nextOf sb w = s.next := by
  obtain ⟨b, rfl, h1⟩ := h.at_
  unfold Go.Proofs.YtnbhejbpofjamaaDoor.nextOf
  rw [h1.c3]
  simp [intOf]
set_option maxRecDepth 100000 in
set_option maxHeartbeats 8000000 in
theorem full_walk (which : Int) (W : World) (hT : Tabs W) (hP : Pow W) : Calls Tryd.prog 3 #[.int .i64 which] W fun e w' => e = .returned (.bool true) ∧ Below W.heap.size W w' := by
  have HLV := hide (lives_any W hT hP)
  have HT := hide hT
  have HP := hide hP
  clear hT hP
  go_enter Tryd.func3, Tryd.ntmps3
  go_wp2_with fail
  refine (Calls.mono HLV.out) ?_
  rintro e w0 ⟨rfl, b0⟩
  have HB0 := hide b0
  have HNEW := hide (ls_new w0 (HT.out.below b0))
  have HT0 := hide (HT.out.below b0)
  have HP0 := hide (HP.out.below b0)
  clear b0 HLV
  go_wp2_with fail
  refine (Calls.mono HNEW.out) ?_
  rintro e w1 ⟨sb, g, bp, rfl, h1⟩
  have H1 := hide h1
  clear h1 HNEW
  go_wp2_with fail
  go_loopw [] (fun wr => ∃ (i : Nat) (s : Bst), i ≤ 199 ∧ FullS i s ∧ LS w0 wr sb s) (fun wr => 500 - nextOf sb wr)
  case atStart => exact ⟨0, _, by omega, full_start g bp, H1.out⟩
  case round =>
    obtain ⟨i, s, hi, hf, hl⟩ := hrel
    have HF := hide hf
    have HL := hide hl
    have HM := hide (show Calls Tryd.prog 7 #[.pointer (some ⟨sb, 0, none⟩)] wr fun e w' => e = .returned (.int .i64 ((i + 1 : Nat) : Int)) ∧ wr = w' by
      have h9 := hl.many
      rw [hf.length] at h9
      exact h9)
    clear hf hl
    by_cases hlt : i < 199
    · have y1 : decide ((((i + 1 : Nat)) : Int) < 200) = true := by simp; omega
      have y1' : decide ((i : Int) + 1 < 200) = true := by simp; omega
      have HI := hide hlt
      have HU := hide (HL.out.unique HT0.out HP0.out bB (by show 1 < _; omega))
      clear hi hlt
      go_wp2_with (go_at_call 7; (with_reducible refine Calls.mono HM.out ?_); rintro r w2 ⟨rfl, rfl⟩)
      refine (Calls.mono HU.out) ?_
      rintro e w2 ⟨h2, _, hu⟩
      obtain ⟨k, hk1, hk2, rfl⟩ := hu (by kernel_rfl)
      obtain rfl := HF.out.unique hk1 hk2
      have hc := h2.create HT0.out (by rw [HF.out.next]; have := HI.out; omega) (nmB bB k) (by have := nmB_size bB k (by have := HI.out; omega); have : bB.size = 1 := rfl; omega)
      rw [HF.out.cre HI.out] at hc
      simp only [if_true] at hc
      have HC := hide hc
      clear h2 hu hk1 hk2 HU hc
      go_wp2_with fail
      refine (Calls.mono HC.out) ?_
      rintro e w3 ⟨rfl, g3, b3, h3⟩
      have H3 := hide h3
      clear h3 HC
      go_wp2_with fail
      go_roundw
      case rel => exact ⟨k + 1, _, by have := HI.out; omega, HF.out.add g3 b3, H3.out⟩
      case measure =>
        have h8 := H3.out.nextOf
        have h9 := HL.out.nextOf
        have h7 : (addS s (nmB bB k) g3 b3).next = s.next + 1 := rfl
        have := HF.out.next
        have := HI.out
        rw [h8, h9, h7]
        omega
    · obtain rfl : i = 199 := by omega
      clear hi hlt
      have hc := HL.out.create HT0.out (by rw [HF.out.next]; omega) moreB (by show 4 < _; omega)
      rw [HF.out.full] at hc
      have HC := hide hc
      clear hc
      go_wp2_with (go_at_call 7; (with_reducible refine Calls.mono HM.out ?_); rintro r w2 ⟨rfl, rfl⟩)
      refine (Calls.mono HC.out) ?_
      rintro e w3 ⟨rfl, g3, b3, h3⟩
      have H3 := hide (show LS w0 w3 sb s from h3)
      clear h3 HC
      obtain ⟨p, hp⟩ : ∃ p : Nat, pickZ which 200 = (p : Int) := ⟨(pickZ which 200).toNat, by have := pickZ_ge (n := which) (k := 200) (by omega); omega⟩
      have hp2 : p < 200 := by have := pickZ_lt (n := which) (k := 200) (by omega); omega
      have HPK := hide (show Calls Tryd.prog 11 #[.int .i64 which, .int .i64 200] w3 fun e w' => e = .returned (.int .i64 (p : Int)) ∧ w3 = w' by rw [← hp]; exact pick_any which 200 w3 (by omega) (by omega))
      have hk := H3.out.kill (p : Int)
      rw [HF.out.kill HL.out.ok hp2] at hk
      simp only [if_true, Int.toNat_natCast] at hk
      have HK := hide hk
      have HKD := hide (HF.out.killed hp2)
      clear hk hp hp2
      go_wp2_with (go_at_call 11; (with_reducible refine Calls.mono HPK.out ?_); rintro r w2 ⟨rfl, rfl⟩)
      refine (Calls.mono HK.out) ?_
      rintro e w4 ⟨rfl, h4⟩
      have hc := h4.create HT0.out (by rw [HKD.out.2.1]; omega) moreB (by show 4 < _; omega)
      rw [HKD.out.1, HKD.out.2.1] at hc
      simp only [if_true] at hc
      have HC := hide hc
      clear h4 hc HK HPK
      go_wp2_with fail
      refine (Calls.mono HC.out) ?_
      rintro e w5 ⟨rfl, g5, b5, h5⟩
      have HM5 := hide (show Calls Tryd.prog 7 #[.pointer (some ⟨sb, 0, none⟩)] w5 fun e w' => e = .returned (.int .i64 200) ∧ w5 = w' by
        have h9 := h5.many
        rw [show (addS (kilS s p) moreB g5 b5).all.length = 200 by
          show ((kilS s p).all ++ [_]).length = 200
          rw [List.length_append, HKD.out.2.2]
          rfl] at h9
        exact h9)
      have HB5 := hide h5.bel
      clear h5 HC
      go_wp2_with fail
      refine (Calls.mono HM5.out) ?_
      rintro e w6 ⟨rfl, rfl⟩
      go_wp2_with fail
      go_ret
      exact ⟨rfl, HB0.out.trans (HB5.out.mono HB0.out.size)⟩
end Go.Proofs.YtnbhejbpofjamaaDoor
