/- NamesFull returns true for every name, under the tables of utf8 alone. -/
import Derived.Test.YtkhjdhoaephdkaaDoorNamLives
namespace Go.Proofs.YtkhjdhoaephdkaaDoor
open Go.RowKit

def xs : ByteArray := ⟨#[120]⟩
theorem chk_xs : chk xs = 0 := by decide +kernel
/-- Symbols L and n that are not interned. -/
def padded (L : List Sym) (n : Nat) : List Sym := L ++ List.replicate n (Sym.fresh xs false)
theorem padded_len (L : List Sym) (n : Nat) : (padded L n).length = L.length + n := by simp [padded]
theorem padded_succ (L : List Sym) (n : Nat) : padded L (n + 1) = padded L n ++ [Sym.fresh xs false] := by
  unfold padded
  rw [List.replicate_succ', List.append_assoc]
theorem find_pads (s : ByteArray) : ∀ (n k : Nat), findFrom k (List.replicate n (Sym.fresh xs false)) s = none
  | 0, _ => rfl
  | n + 1, k => by
    rw [List.replicate_succ, findFrom, find_pads s n (k + 1)]
    simp [Sym.fresh]
theorem find_padded (L : List Sym) (n : Nat) (s : ByteArray) : find (padded L n) s = find L s := by
  unfold find padded
  rw [findFrom_append, find_pads]
  simp
theorem find_snoc (L : List Sym) (s x : ByteArray) (i : Bool) : find (L ++ [Sym.fresh x i]) s = (find L s).or (if i && s == x then some L.length else none) := by
  unfold find
  rw [findFrom_append]
  simp [findFrom, Sym.fresh]

/-- A name with an exclamation mark behind it. -/
def bang (s : ByteArray) : ByteArray := s ++ ⟨#[33]⟩
theorem bang_list (s : ByteArray) : (bang s).data.toList = s.data.toList ++ [33] := by simp [bang]
theorem bang_size (s : ByteArray) : (bang s).size = s.size + 1 := by simp [bang]; rfl
theorem fixed_no_bang : ∀ b ∈ fixedBytes, b.getLast? ≠ some 33 := by decide +kernel
theorem bang_find (s : ByteArray) : find fixedSyms (bang s) = none := by
  apply findFrom_syms
  intro h
  obtain ⟨b, hb, he⟩ := List.mem_map.1 h
  apply fixed_no_bang b hb
  have : b = (bang s).data.toList := by rw [← he]; simp [strOf]
  rw [this, bang_list]
  simp
theorem bang_ne (s : ByteArray) : (bang s == s) = false := by
  cases h : bang s == s with
  | false => rfl
  | true =>
    have := congrArg ByteArray.size ((MapKept.bytes_beq _ _).1 h)
    rw [bang_size] at this
    omega
theorem chk_of (s : ByteArray) (hv : validS s = true) (hs : s.size ≤ 1000) : chk s = 0 := by
  have := lenS_le s
  simp [chk, hv]
  omega
theorem chars_bang {s : ByteArray} (hv : validS s = true) : validS (bang s) = true := by
  obtain ⟨c, hc⟩ := Option.isSome_iff_exists.1 hv
  simp [validS, bang_list, chars_append [33] _ c hc]
  decide

/-- What Intern makes of a new table, of a valid name. -/
theorem intern_first (s : ByteArray) (hc : chk s = 0) : ∃ (n : Nat) (L1 : List Sym), internM fixedSyms s = ((n : Int), 0, L1) ∧ find L1 s = some n ∧ L1.length ≤ 63 ∧ find L1 (bang s) = none := by
  cases hf : find fixedSyms s with
  | some n => exact ⟨n, fixedSyms, by simp [internM, hc, hf], hf, by simp [fixedSyms_len], bang_find s⟩
  | none =>
    refine ⟨62, fixedSyms ++ [Sym.fresh s true], by simp [internM, hc, hf, fixedSyms_len], ?_, by simp [fixedSyms_len], ?_⟩
    · rw [find_snoc, hf]
      simp [(MapKept.bytes_beq s s).2 rfl, fixedSyms_len]
    · rw [find_snoc, bang_find, bang_ne]
      simp

set_option maxRecDepth 100000 in
set_option maxHeartbeats 2000000 in
theorem full_walk (s : ByteArray) (W : World) (hT : Tabs W) (hs : s.size ≤ 140737488351232) : Calls Tryd.prog 3 #[.string s] W fun e w' => e = .returned (.bool true) ∧ Below W.heap.size W w' := by
  have HT := hide hT
  clear hT
  by_cases hl : s.size ≤ 300
  · have hz : decide ((300 : Int) < (s.size : Int)) = false := by simp; omega
    go_enter Tryd.func3, Tryd.ntmps3
    go_wp2_with fail
    refine (lives_any W HT.out).mono ?_
    rintro e w1 ⟨rfl, b1⟩
    go_wp2_with fail
    refine (refvalid_any s w1 (by omega)).mono ?_
    rintro e w2 ⟨rfl, b2⟩
    have B2 := b1.trans (b2.mono b1.size)
    clear b1 b2
    cases hv : validS s with
    | false =>
      go_wp2
      go_ret
      exact ⟨rfl, B2⟩
    | true =>
      obtain ⟨n, L1, hm, hf, hlen, hbang⟩ := intern_first s (chk_of s hv (by omega))
      have HM := hide hm
      have HF := hide hf
      have HB := hide hbang
      have HV := hide hv
      clear hm hf hbang
      go_wp2_with fail
      refine (new_any w2).mono ?_
      rintro e w3 ⟨tb, rfl, ht, hb⟩
      have h3 : Since w2 tb fixedSyms w3 := ⟨ht, hb⟩
      have HT2 := hide (HT.out.below B2)
      clear ht hb
      go_wp2_with fail
      refine (since_intern h3 HT2.out s (by omega) (by decide) HM.out).mono ?_
      rintro e w4 ⟨rfl, h4⟩
      clear h3
      go_wp2_with fail
      refine (many_any h4.1).mono ?_
      rintro e w5 ⟨rfl, rfl⟩
      go_wp2
      go_loopw [6] (fun i wr => ∃ m : Nat, L1.length ≤ m ∧ m ≤ 16384 ∧ i = .int .i64 (m : Int) ∧ Since w2 tb (padded L1 (m - L1.length)) wr) (fun i _ => 16384 - (intOf i).toNat)
      case atStart => exact ⟨L1.length, Nat.le_refl _, by omega, rfl, by simpa [padded] using h4⟩
      case round =>
        obtain ⟨m, hm0, hm, rfl, hr⟩ := hrel
        by_cases hlt : m < 16384
        · have hz2 : decide ((m : Int) < (16384 : Int)) = true := by simp; omega
          have hfr : freshM (padded L1 (m - L1.length)) xs = ((m : Int), 0, padded L1 (m - L1.length + 1)) := by
            rw [padded_succ]
            have e : L1.length + (m - L1.length) = m := by omega
            simp [freshM, chk_xs, padded_len, e]
            omega
          have HFR := hide hfr
          have HL := hide (show (padded L1 (m - L1.length)).length ≤ 16384 by rw [padded_len]; omega)
          have HN := hide (show m - L1.length + 1 = m + 1 - L1.length by omega)
          have HLT := hide hlt
          clear hfr hlt
          go_wp2_with (go_at_call 14; refine (since_fresh hr HT2.out xs (by decide) HL.out HFR.out).mono ?_; rintro e w6 ⟨rfl, h6⟩)
          go_roundw
          case rel => exact ⟨m + 1, by omega, HLT.out, by go_num, by rw [← HN.out]; exact h6⟩
          case measure => have := HLT.out; simp [intOf]; omega
        · have hm2 : m = 16384 := by omega
          subst hm2
          have hz2 : decide (((16384 : Nat) : Int) < (16384 : Int)) = false := by decide
          have hlen2 : (padded L1 (16384 - L1.length)).length = 16384 := by rw [padded_len]; omega
          generalize hL : padded L1 (16384 - L1.length) = L at hr hlen2
          have hfind := find_padded L1 (16384 - L1.length)
          rw [hL] at hfind
          have HX := hide (show freshM L s = (0, 7, L) by simp [freshM, chk_of s HV.out (by omega), hlen2])
          have HY := hide (show internM L s = ((n : Int), 0, L) by simp [internM, chk_of s HV.out (by omega), hfind, HF.out])
          have HZ := hide (show internM L (bang s) = (0, 7, L) by simp [internM, chk_of (bang s) (chars_bang HV.out) (by rw [bang_size]; omega), hfind, HB.out, hlen2])
          have HL := hide (show L.length ≤ 16384 by omega)
          have HE := hide hlen2
          have HS := hide (show (bang s).size * 8 ≤ 140737488355328 by rw [bang_size]; omega)
          clear hlen2 hfind hL hlt hm hm0
          go_wp2_with fail
          refine (since_fresh hr HT2.out s (by omega) HL.out HX.out).mono ?_
          rintro e w6 ⟨rfl, h6⟩
          go_wp2_with fail
          refine (since_intern h6 HT2.out s (by omega) HL.out HY.out).mono ?_
          rintro e w7 ⟨rfl, h7⟩
          go_wp2_with fail
          refine (since_intern h7 HT2.out (bang s) HS.out HL.out HZ.out).mono ?_
          rintro e w8 ⟨rfl, h8⟩
          have HMa := hide (many_any h8.1)
          rw [HE.out] at HMa
          go_wp2_with (go_at_call 13; refine (Calls.mono HMa.out) ?_; rintro e w9 ⟨rfl, rfl⟩)
          go_ret
          exact ⟨rfl, B2.trans (h8.2.mono B2.size)⟩
  · have hz : decide ((300 : Int) < (s.size : Int)) = true := by simp; omega
    go_enter Tryd.func3, Tryd.ntmps3
    go_wp2_with (go_at_call 9; refine (lives_any W HT.out).mono ?_; rintro e w1 ⟨rfl, b1⟩)
    go_ret
    exact ⟨rfl, b1⟩

end Go.Proofs.YtkhjdhoaephdkaaDoor
