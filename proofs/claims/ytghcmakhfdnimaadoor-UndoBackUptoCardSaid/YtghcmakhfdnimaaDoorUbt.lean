/- The reference: Text. No condition but those written. -/
import Derived.Test.YtghcmakhfdnimaaDoorUbs
namespace Go.Proofs.YtghcmakhfdnimaaDoor
open Go.RowKit

theorem encL_snoc {L : List Nat} {k x : Nat} (h : L[k]? = some x) : encL (L.take (k + 1)) = encL (L.take k) ++ encU x := by
  rw [List.take_add_one, h, Option.toList_some, encL_append, encL_cons, encL_nil, List.append_nil]
set_option maxRecDepth 100000 in
set_option maxHeartbeats 8000000 in
theorem rtext_any {w : World} {A : Option Addr} {n c : Nat} {L : List Nat} (h : Rd w (.slice A n c) 1 n (ints L)) (hl : n ≤ 65536) (hok : ∀ x ∈ L, okc x) :
    Calls Tryd.prog 58 #[.slice A n c] w fun e w' => e = .returned (.tuple #[.string (strOf L), .int .i64 0]) ∧ Below w.heap.size w w' := by
  obtain ⟨i0, hi, hz0, hz1, hz2⟩ := info_parts info_u8
  have hlen : L.length = n := by
    obtain ⟨_, _, _, hl, _⟩ := h
    rw [ints_size] at hl
    omega
  have y0 : decide (65536 < n) = false := decide_eq_false (by omega)
  have y1 : decide ((65536 : Int) < (n : Int)) = false := decide_eq_false (by omega)
  have H := hide h
  have HOK := hide hok
  have HL := hide hlen
  clear h hok hlen
  go_enter Tryd.func58, Tryd.ntmps58
  go_wp2
  go_loopw [4, 5] (fun v t wr => ∃ k : Nat, t = .int .i64 (k : Int) ∧ k ≤ n ∧ Sl wr 5 1 v (encL (L.take k)).length (u8s (encL (L.take k))) ∧ Below w.heap.size w wr ∧ (∀ g, v.ownBlock = some g → w.heap.size ≤ g)) (fun _ t _ => n - (intOf t).toNat)
  case atStart => exact ⟨0, rfl, Nat.zero_le _, Sl.nil w 5 1, Below.refl _ _, fun g h => by simp [Value.ownBlock] at h⟩
  case round =>
    obtain ⟨k, rfl, hk, hsl, hb, hown⟩ := hrel
    have HS := hide hsl
    have HB := hide hb
    have HO := hide hown
    clear hsl hb hown
    by_cases hlt : k < n
    · have z1 : decide (k < n) = true := by simpa using hlt
      have z2 : decide ((k : Int) < (n : Int)) = true := decide_eq_true (by omega)
      obtain ⟨x, hx⟩ : ∃ x, L[k]? = some x := ⟨_, List.getElem?_eq_getElem (by rw [HL.out]; exact hlt)⟩
      have HRW := hide (H.out.belowF HB.out)
      obtain ⟨g, off, rfl, hcell⟩ := rd_ints HRW.out hx
      have HX := hide (HOK.out x (List.mem_of_getElem? hx))
      have HXX := hide hx
      have HIS := hide (fun w' => isChar_ok HX.out ▸ is_any (x : Int) w')
      have HLT := hide hlt
      clear hx hlt
      go_wp2_with fail
      refine Calls.mono (HIS.out _) ?_
      rintro r w2 ⟨rfl, rfl⟩
      go_wp2_with fail
      refine Calls.mono (bytes_any x HX.out _) ?_
      rintro r w3 ⟨B, m, rfl, hr3, hb3⟩
      have HS3 := hide (Sl.only HS.out (Only.of_below hb3) (F := fun _ => False) fun _ _ f => f)
      have hlim : (encL (L.take k)).length + (encU x).length ≤ 262148 := by
        have h1 := encL_len (L.take k)
        have h2 := encU_len x
        rw [List.length_take] at h1
        omega
      have HB3 := hide hb3
      have HR3 := hide hr3
      clear hb3 hr3
      go_wp2_with (at_builtin; refine wpList_append_sl rfl (.tmp 21) (.tmp 26) 97 rfl 5 i0 (.int .u8 0) 1 1 Tryd.underlying97 hi hz0 hz1 hz2 rfl _ _ (u8s (encL (L.take k))) rfl HS3.out _ rfl _ _ HR3.out (u8s_one _) ?b1 ?b2 ?_)
      case b1 => unfold maxLen; omega
      case b2 => omega
      intro v' w' hsl' honly hv'
      have HSL := hide hsl'
      have HONLY := hide honly
      have HV := hide hv'
      clear hsl' honly hv'
      go_wp2
      go_roundw
      case rel =>
        refine ⟨k + 1, by go_num, HLT.out, ?_, ?_, fun g hg => ?_⟩
        · rw [encL_snoc HXX.out, List.length_append, u8s_append]
          exact HSL.out
        · exact HB.out.trans ((HB3.out.mono HB.out.size).trans (HONLY.out.below (Nat.le_trans HB.out.size HB3.out.size) fun i hi => HO.out i hi))
        · rcases HV.out with e | e
          · exact HO.out g (by rw [← e]; exact hg)
          · rw [e] at hg
            cases hg
            have h1 := HB.out.size
            have h2 := HB3.out.size
            omega
      case measure => have := HLT.out; simp [intOf]; omega
    · have z1 : decide (k < n) = false := by simpa using hlt
      have z2 : decide ((k : Int) < (n : Int)) = false := decide_eq_false (by omega)
      obtain rfl : k = n := by omega
      have HSE := HS.out
      rw [List.take_of_length_le (by rw [HL.out]; exact Nat.le_refl _)] at HSE
      have hc := conv_str HSE
      have HFIN := hide (show (⟨(encL L).toArray⟩ : ByteArray) = strOf L from rfl)
      rw [HFIN.out] at hc
      clear HSE hlt
      go_wp2
      go_ret2
      exact ⟨rfl, HB.out⟩
end Go.Proofs.YtghcmakhfdnimaaDoor
