/- The reference of chapter 15, a text: New, Insert, All. No condition but those written. -/
import Derived.Test.YtnbhejbpofjamaaGreatDoorYrb
import Derived.Laws.BytesArg
import Derived.RegionTactic
namespace Go.Proofs.YtnbhejbpofjamaaGreatDoor
open Go.RowKit

/-- The reference's characters can be read. -/
structure RtIn (w : World) (rb : Nat) (A : Option Addr) (n c : Nat) (L : List Nat) : Prop where
  c0 : w.cell? ⟨rb, 0, none⟩ = some (.slice A n c)
  rd : Rd w (.slice A n c) 1 n (ints L)
  le : n ≤ 65536
section
variable {w : World} {rb n c : Nat} {A : Option Addr} {L : List Nat}
theorem RtIn.len (h : RtIn w rb A n c L) : L.length = n := by
  obtain ⟨_, _, _, hl, _⟩ := h.rd
  rw [ints_size] at hl
  omega
theorem rd_ints {m : Nat} (h : Rd w (.slice A m c) 1 n (ints L)) {i x : Nat} (hx : L[i]? = some x) : ∃ g off, A = some ⟨g, off, none⟩ ∧ w.cell? ⟨g, off + i, none⟩ = some (.int .i64 (x : Int)) := by
  obtain ⟨A', c', e, hl, hc⟩ := h
  injection e with e1 _ _
  have hk : i < L.length := (List.getElem?_eq_some_iff.1 hx).1
  have hn : 0 < n := by rw [ints_size] at hl; omega
  obtain ⟨b, off, e2, h2⟩ := hc hn
  exact ⟨b, off, e1.trans e2, h2 i _ (by simp [ints, hx])⟩
theorem RtIn.at_ (h : RtIn w rb A n c L) {i x : Nat} (hx : L[i]? = some x) : ∃ g off, A = some ⟨g, off, none⟩ ∧ w.cell? ⟨g, off + i, none⟩ = some (.int .i64 (x : Int)) := rd_ints h.rd hx
theorem RtIn.some_ (h : RtIn w rb A n c L) {i : Nat} (hi : i < n) : ∃ x, L[i]? = some x := ⟨_, List.getElem?_eq_getElem (by rw [h.len]; exact hi)⟩
set_option maxRecDepth 100000 in
theorem rsize_any (h : RtIn w rb A n c L) : Calls Tryz.prog 155 #[.pointer (some ⟨rb, 0, none⟩)] w fun e w' => e = .returned (.int .i64 (L.length : Int)) ∧ w = w' := by
  have hl := h.len
  have c0 := h.c0
  rw [hl]
  clear h hl
  go_enter Tryz.func155, Tryz.ntmps155
  go_wp2
  go_ret
  exact ⟨rfl, rfl⟩
set_option maxRecDepth 100000 in
set_option maxHeartbeats 4000000 in
theorem right_any (h : RtIn w rb A n c L) (a d : Int) : Calls Tryz.prog 82 #[.pointer (some ⟨rb, 0, none⟩), .int .i64 a, .int .i64 d] w fun e w' => e = .returned (.bool (spanB L a d)) ∧ w = w' := by
  have hl := h.len
  have hle := h.le
  have c0 := h.c0
  have hw : IntKind.i64.wrap ((n : Int) + 1) = (n : Int) + 1 := IntWalk.i64_in _ (by omega)
  have HE := hide (show spanB L a d = (decide (1 ≤ a) && decide (a ≤ d) && decide (d ≤ (n : Int) + 1)) by unfold spanB; rw [hl, Bool.eq_iff_iff]; simp [and_assoc])
  clear h hl
  by_cases h1 : 1 ≤ a
  · have z1 : decide (1 ≤ a) = true := by simpa using h1
    rw [z1] at HE
    clear h1
    by_cases h2 : a ≤ d
    · have z2 : decide (a ≤ d) = true := by simpa using h2
      rw [z2] at HE
      clear h2
      go_enter Tryz.func82, Tryz.ntmps82
      go_wp2
      go_ret
      exact ⟨by rw [HE.out]; rfl, rfl⟩
    · have z2 : decide (a ≤ d) = false := by simpa using h2
      rw [z2] at HE
      clear h2
      go_enter Tryz.func82, Tryz.ntmps82
      go_wp2
      go_ret
      exact ⟨by rw [HE.out]; rfl, rfl⟩
  · have z1 : decide (1 ≤ a) = false := by simpa using h1
    rw [z1] at HE
    clear h1
    go_enter Tryz.func82, Tryz.ntmps82
    go_wp2
    go_ret
    exact ⟨by rw [HE.out]; rfl, rfl⟩
end
end Go.Proofs.YtnbhejbpofjamaaGreatDoor
namespace Go.Proofs.YtnbhejbpofjamaaGreatDoor
open Go.RowKit

/-- The cells of bytes. -/
def u8s (l : List UInt8) : List Value := l.map fun b => Value.int .u8 (b.toNat : Int)
theorem u8s_len (l : List UInt8) : (u8s l).length = l.length := by simp [u8s]
theorem u8s_append (a b : List UInt8) : u8s (a ++ b) = u8s a ++ u8s b := by simp [u8s]
theorem u8s_one (l : List UInt8) : ∀ u ∈ u8s l, u.oneCell' = true := by
  intro u hu
  obtain ⟨c, _, rfl⟩ := List.mem_map.1 hu
  rfl
theorem u8_byt {n : Nat} (h : n < 256) : Value.int .u8 ((byt n).toNat : Int) = .int .u8 (n : Int) := by rw [byt_nat h]
theorem Rd.belowF {w w' : World} {v : Value} {k n : Nat} {xs : List Value} (h : Rd w v k n xs) (hb : Below w.heap.size w w') : Rd w' v k n xs := h.only (Only.of_below hb) fun _ _ f => f
theorem info_u8 : (Tryz.prog.info? 5).map (fun i => (i.zero, i.size, i.bytes)) = some (some (.int .u8 0), 1, 1) := by kernel_rfl
theorem rd_fresh (w : World) (e : TypeId) (xs : Array Value) (n : Nat) (hn : xs.size = n) (hm : n ≤ 1000) : Rd (w.alloc (.cells xs e)) (.slice (some ⟨w.heap.size, 0, none⟩) n n) 1 n xs.toList := by
  subst hn
  have h := Sl.new w e 1 xs xs.size xs.size (Nat.le_refl _) (by unfold maxLen; omega) (by omega)
  have h2 := h.rd
  rwa [List.take_of_length_le (by simp)] at h2
theorem isChar_ok {c : Nat} (h : okc c) : isChar (c : Int) = true := by
  unfold okc at h
  unfold isChar
  simp
  omega
set_option maxRecDepth 100000 in
set_option maxHeartbeats 4000000 in
/-- A string out of bytes. -/
theorem conv_str {w : World} {v : Value} {l : List UInt8} (h : Sl w 5 1 v l.length (u8s l)) : (convert 118 9 v).run Tryz.prog w = .ok (.string ⟨l.toArray⟩) w := by
  rcases h.2 with ⟨rfl, hn⟩ | ⟨g, off, cap, cs, rfl, _⟩
  · have hl : l = [] := List.eq_nil_of_length_eq_zero hn
    subst hl
    exact run_convert_bytes_nil w 118 5 Tryz.underlying118 Tryz.underlying5 0 0 9 Tryz.underlying9
  · obtain ⟨A', c', e, _, hc⟩ := h.rd
    injection e with e1 _ _
    have := run_convert_bytes_arg (P := Tryz.prog) w 118 5 Tryz.underlying118 Tryz.underlying5 g off l.length cap (l.map fun b => (b.toNat : Int)) (by simp) (fun i hi => by
      obtain ⟨b, o, e2, h2⟩ := hc (by omega)
      rw [← e1] at e2
      injection e2 with e2
      injection e2 with e3 e4
      subst e3 e4
      refine h2 i _ ?_
      simp [u8s, List.getElem?_eq_getElem hi, List.getD]) 9 Tryz.underlying9
    rw [this]
    congr 2
    unfold strOfNums
    congr 2
    rw [List.map_map]
    conv => rhs; rw [← List.map_id l]
    refine List.map_congr_left fun b _ => ?_
    simp
set_option maxRecDepth 100000 in
set_option maxHeartbeats 4000000 in
theorem bytes_1 (c : Nat) (h1 : c < 128) (w : World) : Calls Tryz.prog 125 #[.int .i64 (c : Int)] w fun e w' => e = .returned (.slice (some ⟨w.heap.size, 0, none⟩) 1 1) ∧ w' = w.alloc (.cells #[.int .u8 (c : Int)] 5) := by
  have y1 : decide ((c : Int) < 128) = true := decide_eq_true (by omega)
  have y2 : decide (c < 128) = true := decide_eq_true h1
  go_enter Tryz.func125, Tryz.ntmps125
  go_wp2
  go_ret
  exact ⟨rfl, rfl⟩
set_option maxRecDepth 100000 in
set_option maxHeartbeats 4000000 in
theorem bytes_2 (c : Nat) (h0 : 128 ≤ c) (h1 : c < 2048) (w : World) : Calls Tryz.prog 125 #[.int .i64 (c : Int)] w fun e w' => e = .returned (.slice (some ⟨w.heap.size, 0, none⟩) 2 2) ∧ w' = w.alloc (.cells #[.int .u8 (192 + ((c : Int) / 64)), .int .u8 (128 + ((c : Int) % 64))] 5) := by
  have y1 : decide ((c : Int) < 128) = false := decide_eq_false (by omega)
  have y2 : decide (c < 128) = false := decide_eq_false (by omega)
  have y3 : decide ((c : Int) < 2048) = true := decide_eq_true (by omega)
  have y4 : decide (c < 2048) = true := decide_eq_true (by omega)
  go_enter Tryz.func125, Tryz.ntmps125
  go_wp2
  go_ret
  exact ⟨rfl, rfl⟩
set_option maxRecDepth 100000 in
set_option maxHeartbeats 4000000 in
theorem bytes_3 (c : Nat) (h0 : 2048 ≤ c) (h1 : c < 65536) (w : World) : Calls Tryz.prog 125 #[.int .i64 (c : Int)] w fun e w' => e = .returned (.slice (some ⟨w.heap.size, 0, none⟩) 3 3) ∧ w' = w.alloc (.cells #[.int .u8 (224 + ((c : Int) / 4096)), .int .u8 (128 + ((c : Int) / 64 % 64)), .int .u8 (128 + ((c : Int) % 64))] 5) := by
  have y1 : decide ((c : Int) < 128) = false := decide_eq_false (by omega)
  have y2 : decide (c < 128) = false := decide_eq_false (by omega)
  have y3 : decide ((c : Int) < 2048) = false := decide_eq_false (by omega)
  have y4 : decide (c < 2048) = false := decide_eq_false (by omega)
  have y5 : decide ((c : Int) < 65536) = true := decide_eq_true (by omega)
  have y6 : decide (c < 65536) = true := decide_eq_true (by omega)
  go_enter Tryz.func125, Tryz.ntmps125
  go_wp2
  go_ret
  exact ⟨rfl, rfl⟩
set_option maxRecDepth 100000 in
set_option maxHeartbeats 4000000 in
theorem bytes_4 (c : Nat) (h0 : 65536 ≤ c) (h1 : c < 1114112) (w : World) : Calls Tryz.prog 125 #[.int .i64 (c : Int)] w fun e w' => e = .returned (.slice (some ⟨w.heap.size, 0, none⟩) 4 4) ∧ w' = w.alloc (.cells #[.int .u8 (240 + ((c : Int) / 262144)), .int .u8 (128 + ((c : Int) / 4096 % 64)), .int .u8 (128 + ((c : Int) / 64 % 64)), .int .u8 (128 + ((c : Int) % 64))] 5) := by
  have y1 : decide ((c : Int) < 128) = false := decide_eq_false (by omega)
  have y2 : decide (c < 128) = false := decide_eq_false (by omega)
  have y3 : decide ((c : Int) < 2048) = false := decide_eq_false (by omega)
  have y4 : decide (c < 2048) = false := decide_eq_false (by omega)
  have y5 : decide ((c : Int) < 65536) = false := decide_eq_false (by omega)
  have y6 : decide (c < 65536) = false := decide_eq_false (by omega)
  go_enter Tryz.func125, Tryz.ntmps125
  go_wp2
  go_ret
  exact ⟨rfl, rfl⟩
theorem u8_cell {n : Nat} {z : Int} (h : n < 256) (e : (n : Int) = z) : Value.int .u8 ((byt n).toNat : Int) = .int .u8 z := by rw [byt_nat h, e]
theorem enc_1 {c : Nat} (h : c < 128) : (encU c).length = 1 ∧ u8s (encU c) = [.int .u8 (c : Int)] := by
  have e : encU c = [byt c] := by unfold encU; rw [if_pos h]
  rw [e]
  refine ⟨rfl, ?_⟩
  unfold u8s
  simp only [List.map_cons, List.map_nil]
  rw [u8_cell (by omega) rfl]
theorem enc_2 {c : Nat} (h0 : 128 ≤ c) (h1 : c < 2048) : (encU c).length = 2 ∧ u8s (encU c) = [.int .u8 (192 + (c : Int) / 64), .int .u8 (128 + (c : Int) % 64)] := by
  have e : encU c = [byt (192 + c / 64), byt (128 + c % 64)] := by unfold encU; rw [if_neg (by omega), if_pos h1]
  rw [e]
  refine ⟨rfl, ?_⟩
  unfold u8s
  simp only [List.map_cons, List.map_nil]
  rw [u8_cell (z := 192 + (c : Int) / 64) (by omega) (by omega), u8_cell (z := 128 + (c : Int) % 64) (by omega) (by omega)]
theorem enc_3 {c : Nat} (h0 : 2048 ≤ c) (h1 : c < 65536) : (encU c).length = 3 ∧ u8s (encU c) = [.int .u8 (224 + (c : Int) / 4096), .int .u8 (128 + (c : Int) / 64 % 64), .int .u8 (128 + (c : Int) % 64)] := by
  have e : encU c = [byt (224 + c / 4096), byt (128 + c / 64 % 64), byt (128 + c % 64)] := by unfold encU; rw [if_neg (by omega), if_neg (by omega), if_pos h1]
  rw [e]
  refine ⟨rfl, ?_⟩
  unfold u8s
  simp only [List.map_cons, List.map_nil]
  rw [u8_cell (z := 224 + (c : Int) / 4096) (by omega) (by omega), u8_cell (z := 128 + (c : Int) / 64 % 64) (by omega) (by omega), u8_cell (z := 128 + (c : Int) % 64) (by omega) (by omega)]
theorem enc_4 {c : Nat} (h0 : 65536 ≤ c) (h1 : c < 1114112) : (encU c).length = 4 ∧ u8s (encU c) = [.int .u8 (240 + (c : Int) / 262144), .int .u8 (128 + (c : Int) / 4096 % 64), .int .u8 (128 + (c : Int) / 64 % 64), .int .u8 (128 + (c : Int) % 64)] := by
  have e : encU c = [byt (240 + c / 262144), byt (128 + c / 4096 % 64), byt (128 + c / 64 % 64), byt (128 + c % 64)] := by unfold encU; rw [if_neg (by omega), if_neg (by omega), if_neg (by omega)]
  rw [e]
  refine ⟨rfl, ?_⟩
  unfold u8s
  simp only [List.map_cons, List.map_nil]
  rw [u8_cell (z := 240 + (c : Int) / 262144) (by omega) (by omega), u8_cell (z := 128 + (c : Int) / 4096 % 64) (by omega) (by omega), u8_cell (z := 128 + (c : Int) / 64 % 64) (by omega) (by omega), u8_cell (z := 128 + (c : Int) % 64) (by omega) (by omega)]
theorem bytes_any (c : Nat) (h : okc c) (w : World) : Calls Tryz.prog 125 #[.int .i64 (c : Int)] w fun e w' => ∃ A m, e = .returned (.slice A (encU c).length m) ∧ Rd w' (.slice A (encU c).length m) 1 (encU c).length (u8s (encU c)) ∧ Below w.heap.size w w' := by
  have hc := h.1
  clear h
  by_cases h1 : c < 128
  · obtain ⟨e1, e2⟩ := enc_1 h1
    refine (bytes_1 c h1 w).mono ?_
    rintro e w' ⟨rfl, rfl⟩
    rw [e1, e2]
    exact ⟨_, _, rfl, rd_fresh w 5 _ 1 rfl (by omega), (Below.refl _ _).alloc (Nat.le_refl _) _⟩
  by_cases h2 : c < 2048
  · obtain ⟨e1, e2⟩ := enc_2 (c := c) (by omega) h2
    refine (bytes_2 c (by omega) h2 w).mono ?_
    rintro e w' ⟨rfl, rfl⟩
    rw [e1, e2]
    exact ⟨_, _, rfl, rd_fresh w 5 _ 2 rfl (by omega), (Below.refl _ _).alloc (Nat.le_refl _) _⟩
  by_cases h3 : c < 65536
  · obtain ⟨e1, e2⟩ := enc_3 (c := c) (by omega) h3
    refine (bytes_3 c (by omega) h3 w).mono ?_
    rintro e w' ⟨rfl, rfl⟩
    rw [e1, e2]
    exact ⟨_, _, rfl, rd_fresh w 5 _ 3 rfl (by omega), (Below.refl _ _).alloc (Nat.le_refl _) _⟩
  · obtain ⟨e1, e2⟩ := enc_4 (c := c) (by omega) (by omega)
    refine (bytes_4 c (by omega) (by omega) w).mono ?_
    rintro e w' ⟨rfl, rfl⟩
    rw [e1, e2]
    exact ⟨_, _, rfl, rd_fresh w 5 _ 4 rfl (by omega), (Below.refl _ _).alloc (Nat.le_refl _) _⟩
end Go.Proofs.YtnbhejbpofjamaaGreatDoor
namespace Go.Proofs.YtnbhejbpofjamaaGreatDoor
open Go.RowKit

theorem encL_snoc {L : List Nat} {k x : Nat} (h : L[k]? = some x) : encL (L.take (k + 1)) = encL (L.take k) ++ encU x := by
  rw [List.take_add_one, h, Option.toList_some, encL_append, encL_cons, encL_nil, List.append_nil]
set_option maxRecDepth 100000 in
set_option maxHeartbeats 8000000 in
theorem rtext_any {w : World} {A : Option Addr} {n c : Nat} {L : List Nat} (h : Rd w (.slice A n c) 1 n (ints L)) (hl : n ≤ 65536) (hok : ∀ x ∈ L, okc x) :
    Calls Tryz.prog 83 #[.slice A n c] w fun e w' => e = .returned (.tuple #[.string (strOf L), .int .i64 0]) ∧ Below w.heap.size w w' := by
  obtain ⟨i0, hi, hz0, hz1, hz2⟩ := info_parts info_u8
  have hlen : L.length = n := by
    obtain ⟨_, _, _, hl, _⟩ := h
    rw [ints_size] at hl
    omega
  have y0 : decide (65536 < n) = false := decide_eq_false (by omega)
  have y1 : decide ((65536 : Int) < (n : Int)) = false := decide_eq_false (by omega)
  have H := hide h
  have HOK := hide hok
  have HL := hide hlen
  clear h hok hlen
  go_enter Tryz.func83, Tryz.ntmps83
  go_wp2
  go_loopw [4, 5] (fun v t wr => ∃ k : Nat, t = .int .i64 (k : Int) ∧ k ≤ n ∧ Sl wr 5 1 v (encL (L.take k)).length (u8s (encL (L.take k))) ∧ Below w.heap.size w wr ∧ (∀ g, v.ownBlock = some g → w.heap.size ≤ g)) (fun _ t _ => n - (intOf t).toNat)
  case atStart => exact ⟨0, rfl, Nat.zero_le _, Sl.nil w 5 1, Below.refl _ _, fun g h => by simp [Value.ownBlock] at h⟩
  case round =>
    obtain ⟨k, rfl, hk, hsl, hb, hown⟩ := hrel
    have HS := hide hsl
    have HB := hide hb
    have HO := hide hown
    clear hsl hb hown
    by_cases hlt : k < n
    · have z1 : decide (k < n) = true := by simpa using hlt
      have z2 : decide ((k : Int) < (n : Int)) = true := decide_eq_true (by omega)
      obtain ⟨x, hx⟩ : ∃ x, L[k]? = some x := ⟨_, List.getElem?_eq_getElem (by rw [HL.out]; exact hlt)⟩
      have HRW := hide (H.out.belowF HB.out)
      obtain ⟨g, off, rfl, hcell⟩ := rd_ints HRW.out hx
      have HX := hide (HOK.out x (List.mem_of_getElem? hx))
      have HXX := hide hx
      have HIS := hide (fun w' => isChar_ok HX.out ▸ is_any (x : Int) w')
      have HLT := hide hlt
      clear hx hlt
      go_wp2_with fail
      refine Calls.mono (HIS.out _) ?_
      rintro r w2 ⟨rfl, rfl⟩
      go_wp2_with fail
      refine Calls.mono (bytes_any x HX.out _) ?_
      rintro r w3 ⟨B, m, rfl, hr3, hb3⟩
      have HS3 := hide (Sl.only HS.out (Only.of_below hb3) (F := fun _ => False) fun _ _ f => f)
      have hlim : (encL (L.take k)).length + (encU x).length ≤ 262148 := by
        have h1 := encL_len (L.take k)
        have h2 := encU_len x
        rw [List.length_take] at h1
        omega
      have HB3 := hide hb3
      have HR3 := hide hr3
      clear hb3 hr3
      go_wp2_with (at_builtin; refine wpList_append_sl rfl (.tmp 21) (.tmp 26) 118 rfl 5 i0 (.int .u8 0) 1 1 Tryz.underlying118 hi hz0 hz1 hz2 rfl _ _ (u8s (encL (L.take k))) rfl HS3.out _ rfl _ _ HR3.out (u8s_one _) ?b1 ?b2 ?_)
      case b1 => unfold maxLen; omega
      case b2 => omega
      intro v' w' hsl' honly hv'
      have HSL := hide hsl'
      have HONLY := hide honly
      have HV := hide hv'
      clear hsl' honly hv'
      go_wp2
      go_roundw
      case rel =>
        refine ⟨k + 1, by go_num, HLT.out, ?_, ?_, fun g hg => ?_⟩
        · rw [encL_snoc HXX.out, List.length_append, u8s_append]
          exact HSL.out
        · exact HB.out.trans ((HB3.out.mono HB.out.size).trans (HONLY.out.below (Nat.le_trans HB.out.size HB3.out.size) fun i hi => HO.out i hi))
        · rcases HV.out with e | e
          · exact HO.out g (by rw [← e]; exact hg)
          · rw [e] at hg
            cases hg
            have h1 := HB.out.size
            have h2 := HB3.out.size
            omega
      case measure => have := HLT.out; simp [intOf]; omega
    · have z1 : decide (k < n) = false := by simpa using hlt
      have z2 : decide ((k : Int) < (n : Int)) = false := decide_eq_false (by omega)
      obtain rfl : k = n := by omega
      have HSE := HS.out
      rw [List.take_of_length_le (by rw [HL.out]; exact Nat.le_refl _)] at HSE
      have hc := conv_str HSE
      have HFIN := hide (show (⟨(encL L).toArray⟩ : ByteArray) = strOf L from rfl)
      rw [HFIN.out] at hc
      clear HSE hlt
      go_wp2
      go_ret2
      exact ⟨rfl, HB.out⟩
end Go.Proofs.YtnbhejbpofjamaaGreatDoor
namespace Go.Proofs.YtnbhejbpofjamaaGreatDoor
open Go.RowKit

section
variable {P : Program} {ops : Array Oper} {Q : Exit → Act → World → Prop} {md : Region.Mode} {S : World → Prop} {D : List Nat}
/-- Two that may come up. -/
theorem wpAnyD_two {i j : Nat} {o p : Oper} {fuel : Nat} {listed : Array Bool} {a : Act} {w : World} (hr : Region.ready md ops listed = [i, j]) (ho : ops[i]? = some o) (hp : ops[j]? = some p)
    (h1 : ∀ K : Act → World → Prop, (∀ a' w', (D.contains i = false → S w → S w') → wpAnyD P md ops Q S D fuel (listed.setIfInBounds i true) a' w' → K a' w') → if Region.wanted o (yielded ops a.tmps) = true then Oper.wp P o a w K Q else K (a.put o.dst undef) w)
    (h2 : ∀ K : Act → World → Prop, (∀ a' w', (D.contains j = false → S w → S w') → wpAnyD P md ops Q S D fuel (listed.setIfInBounds j true) a' w' → K a' w') → if Region.wanted p (yielded ops a.tmps) = true then Oper.wp P p a w K Q else K (a.put p.dst undef) w) : wpAnyD P md ops Q S D (fuel + 1) listed a w := by
  refine wpAnyD_all hr (by simp) fun k hk => ?_
  rcases List.mem_cons.1 hk with rfl | hk
  · exact wpOp_step ho fun K hK => h1 K fun a' w' h1 h2 => hK a' w' ⟨h1, h2⟩
  · obtain rfl : k = j := by simpa using hk
    exact wpOp_step hp fun K hK => h2 K fun a' w' h1 h2 => hK a' w' ⟨h1, h2⟩
end
theorem step_append_w {P : Program} {ops : Array Oper} {o : Oper} {a : Act} {w : World} {K : Act → World → Prop} {Q : Exit → Act → World → Prop} {E : Prop} (hw : Region.wanted o (yielded ops a.tmps) = true) (s x : Operand) (t : TypeId)
    (ho : o.op = .call { callee := .builtin .append, args := #[s, x], argTypes := #[t, t] })
    (e : TypeId) (i : TypeInfo) (z : Value) (k bytes : Nat) (ht : P.underlying t = some (.slice e)) (hi : P.info? e = some i) (hz : i.zero = some z)
    (hsize : i.size = k) (hby : i.bytes = bytes) (hzs : z.cells.size = k) (v : Value) (n : Nat) (xs : List Value) (hs : a.eval s = v) (h : Sl w e k v n xs)
    (sv : Value) (hx : a.eval x = sv) (m : Nat) (news : List Value) (hr : Rd w sv k m news) (h1 : ∀ u ∈ news, u.oneCell' = true) (h63 : n + m ≤ maxLen) (hbytes : (n + m) * bytes ≤ 140737488355328)
    (hK : ∀ v' w', Sl w' e k v' (n + m) (xs ++ news) → Only (fun b => v.ownBlock = some b) w w' → (v'.ownBlock = v.ownBlock ∨ v'.ownBlock = some w.heap.size) → K (a.put o.dst v') w') :
    if Region.wanted o (yielded ops a.tmps) = true then Oper.wp P o a w K Q else E := by
  rw [if_pos hw]
  obtain ⟨v', w', hrun, h2, h3, h4⟩ := run_append_sl (P := P) w t o.type e i z k bytes ht hi hz hsize hby hzs v n xs h sv m news hr h1 h63 hbytes
  unfold Oper.wp execOp
  simp only [ho, resolve, invoke, builtin, Sem.run_bind, Sem.run_pure, Result.andThen_ok, List.map_toArray, List.map_cons, List.map_nil, hs, hx, hrun]
  exact hK v' w' h2 h3 h4
/-- The first k of a slice, and what is behind them. -/
theorem Rd.front {w : World} {g off n c q k : Nat} {xs : List Value} (h : Rd w (.slice (some ⟨g, off, none⟩) n c) q n xs) (hk : k ≤ n) (d : Nat) : Rd w (.slice (some ⟨g, off, none⟩) k d) q k (xs.take (k * q)) := by
  obtain ⟨A, c', e, hl, hc⟩ := h
  injection e with e1 _ _
  refine ⟨_, _, rfl, ?_, fun hp => ?_⟩
  · have : k * q ≤ n * q := Nat.mul_le_mul_right _ hk
    rw [List.length_take]
    omega
  · obtain ⟨b, o, e2, hcell⟩ := hc (by omega)
    rw [← e1] at e2
    refine ⟨b, o, e2, fun j u hu => hcell j u ?_⟩
    rw [List.getElem?_take] at hu
    split at hu
    · exact hu
    · cases hu
theorem Rd.back {w : World} {g off n c q k : Nat} {xs : List Value} (h : Rd w (.slice (some ⟨g, off, none⟩) n c) q n xs) (hk : k ≤ n) (d : Nat) : Rd w (.slice (some ⟨g, off + k * q, none⟩) (n - k) d) q (n - k) (xs.drop (k * q)) := by
  obtain ⟨A, c', e, hl, hc⟩ := h
  injection e with e1 _ _
  refine ⟨_, _, rfl, ?_, fun hp => ?_⟩
  · rw [List.length_drop, hl, Nat.sub_mul]
  · obtain ⟨b, o, e2, hcell⟩ := hc (by omega)
    rw [← e1] at e2
    injection e2 with e2
    injection e2 with e3 e4
    subst e3 e4
    refine ⟨_, _, rfl, fun j u hu => ?_⟩
    rw [List.getElem?_drop] at hu
    rw [Nat.add_assoc]
    exact hcell _ _ hu
theorem Rd.back_if {w : World} {g off n c q k : Nat} {xs : List Value} (h : Rd w (.slice (some ⟨g, off, none⟩) n c) q n xs) (hk : k ≤ n) (hn : n ≤ c) (d : Nat) : Rd w (.slice (if c = k then some ⟨g, off, none⟩ else some ⟨g, off + k * q, none⟩) (n - k) d) q (n - k) (xs.drop (k * q)) := by
  by_cases e : c = k
  · rw [if_pos e]
    obtain ⟨_, _, _, hl, _⟩ := h
    exact ⟨_, _, rfl, by rw [List.length_drop, hl, Nat.sub_mul], fun hp => by omega⟩
  · rw [if_neg e]
    exact h.back hk d
end Go.Proofs.YtnbhejbpofjamaaGreatDoor
namespace Go.Proofs.YtnbhejbpofjamaaGreatDoor
open Go.RowKit

theorem rd_zero (w : World) (A : Option Addr) : Rd w (.slice A 0 0) 1 0 [] := ⟨A, 0, rfl, rfl, fun h => by omega⟩
theorem ints_mid (L : List Nat) (i k : Nat) : ((ints L).drop i).take k = ints ((L.drop i).take k) := by simp [ints]
section
variable {w : World} {rb n c : Nat} {A : Option Addr} {L : List Nat}
set_option maxRecDepth 100000 in
set_option maxHeartbeats 8000000 in
theorem rslice_any (h : RtIn w rb A n c L) (hok : ∀ x ∈ L, okc x) (hnc : n ≤ c) (hc : c ≤ maxLen) (hA : (A = none ∧ c = 0) ∨ ∃ g off, A = some ⟨g, off, none⟩) (a d : Int) : Calls Tryz.prog 64 #[.pointer (some ⟨rb, 0, none⟩), .int .i64 a, .int .i64 d] w fun e w' => e = .returned (sliceR L a d) ∧ Below w.heap.size w w' := by
  have hl := h.len
  have hle := h.le
  have c0 := h.c0
  have HR := hide (right_any h a d)
  unfold maxLen at hc
  cases hs : spanB L a d with
  | false =>
    have HE := hide (show sliceR L a d = .tuple #[.string ⟨#[]⟩, .int .i64 3] by unfold sliceR; rw [hs]; rfl)
    rw [hs] at HR
    clear h hs
    go_enter Tryz.func64, Tryz.ntmps64
    go_wp2_with fail
    refine Calls.mono HR.out ?_
    rintro r w2 ⟨rfl, rfl⟩
    go_wp2
    go_ret2
    exact ⟨by rw [HE.out]; rfl, Below.refl _ _⟩
  | true =>
    have hb : 1 ≤ a ∧ a ≤ d ∧ d ≤ (L.length : Int) + 1 := by simpa [spanB] using hs
    obtain ⟨i, rfl⟩ : ∃ i : Nat, a = (i : Int) + 1 := ⟨(a - 1).toNat, by omega⟩
    obtain ⟨j, rfl⟩ : ∃ j : Nat, d = (j : Int) + 1 := ⟨(d - 1).toNat, by omega⟩
    have HE := hide (show sliceR L ((i : Int) + 1) ((j : Int) + 1) = .tuple #[.string (strOf ((L.drop i).take (j - i))), .int .i64 0] by
      unfold sliceR
      rw [if_pos hs, show ((i : Int) + 1 - 1).toNat = i by omega, show ((j : Int) + 1 - ((i : Int) + 1)).toNat = j - i by omega])
    rw [hs] at HR
    have hij : i ≤ j := by omega
    have hjn : j ≤ n := by omega
    have hw1 : IntKind.i64.wrap ((i : Int) + 1 - 1) = (i : Int) := by
      rw [show (i : Int) + 1 - 1 = (i : Int) by omega]
      exact IntWalk.i64_in _ (by omega)
    have hw2 : IntKind.i64.wrap ((j : Int) + 1 - 1) = (j : Int) := by
      rw [show (j : Int) + 1 - 1 = (j : Int) by omega]
      exact IntWalk.i64_in _ (by omega)
    have kb1 : (0 : Int) ≤ (i : Int) := by omega
    have kb2 : (i : Int) ≤ (j : Int) := by omega
    have kb3 : (j : Int) ≤ (c : Int) := by omega
    have HT := hide (fun v (hv : Rd w v 1 (j - i) (ints ((L.drop i).take (j - i)))) => hv)
    have HOK := hide (fun x (hx : x ∈ (L.drop i).take (j - i)) => hok x (List.mem_of_mem_drop (List.mem_of_mem_take hx)))
    have HRD := hide h.rd
    rcases hA with ⟨rfl, rfl⟩ | ⟨g, off, rfl⟩
    · obtain rfl : n = 0 := by omega
      obtain rfl : j = 0 := by omega
      obtain rfl : i = 0 := by omega
      have HTX := hide (rtext_any (w := w) (A := none) (n := 0) (c := 0) (L := (L.drop 0).take (0 - 0)) (by simpa [ints] using Rd.nil w 1) (by omega) HOK.out)
      clear h hs hb hok hl
      go_enter Tryz.func64, Tryz.ntmps64
      go_wp2_with fail
      refine Calls.mono HR.out ?_
      rintro r w2 ⟨rfl, rfl⟩
      go_wp2_with fail
      refine Calls.mono HTX.out ?_
      rintro r w3 ⟨rfl, hb3⟩
      have HB := hide hb3
      clear hb3
      go_wp2
      go_ret2
      exact ⟨by rw [HE.out]; rfl, HB.out⟩
    · clear h hs hb hok hl
      have HR2 := hide HRD.out
      by_cases hci : c = i
      · subst hci
        obtain rfl : j = c := by omega
        obtain rfl : n = j := by omega
        clear hij hjn hnc kb2 kb3
        go_enter Tryz.func64, Tryz.ntmps64
        go_wp2_with fail
        refine Calls.mono HR.out ?_
        rintro r w2 ⟨rfl, rfl⟩
        go_wp2_with fail
        refine Calls.mono (rtext_any (L := (L.drop n).take (n - n)) (by simpa [ints] using rd_zero w (some ⟨g, off, none⟩)) (by omega) HOK.out) ?_
        rintro r w3 ⟨rfl, hb3⟩
        have HB := hide hb3
        clear hb3
        go_wp2
        go_ret2
        exact ⟨by rw [HE.out, show (L.drop n).take (n - n) = [] by simp]; rfl, HB.out⟩
      · clear HRD
        go_enter Tryz.func64, Tryz.ntmps64
        go_wp2_with fail
        refine Calls.mono HR.out ?_
        rintro r w2 ⟨rfl, rfl⟩
        go_wp2_with fail
        refine Calls.mono (rtext_any (L := (L.drop i).take (j - i)) (by
          have h1 := (HR2.out.back (k := i) (by omega) c).front (k := j - i) (by omega) (c - i)
          rw [Nat.mul_one, Nat.mul_one, ints_mid] at h1
          exact h1) (by omega) HOK.out) ?_
        rintro r w3 ⟨rfl, hb3⟩
        have HB := hide hb3
        clear hb3
        go_wp2
        go_ret2
        exact ⟨by rw [HE.out]; rfl, HB.out⟩
theorem slice_all (L : List Nat) : sliceR L 1 ((L.length : Int) + 1) = .tuple #[.string (strOf L), .int .i64 0] := by
  unfold sliceR
  rw [show spanB L 1 ((L.length : Int) + 1) = true by unfold spanB; simp; omega, if_pos rfl, show ((1 : Int) - 1).toNat = 0 by rfl, List.drop_zero, List.take_of_length_le (by omega)]
set_option maxRecDepth 100000 in
set_option maxHeartbeats 8000000 in
theorem rall_any (h : RtIn w rb A n c L) (hok : ∀ x ∈ L, okc x) (hnc : n ≤ c) (hc : c ≤ maxLen) (hA : (A = none ∧ c = 0) ∨ ∃ g off, A = some ⟨g, off, none⟩) : Calls Tryz.prog 33 #[.pointer (some ⟨rb, 0, none⟩)] w fun e w' => e = .returned (.string (strOf L)) ∧ Below w.heap.size w w' := by
  have hl := h.len
  have hle := h.le
  have c0 := h.c0
  have HS := hide (rslice_any h hok hnc hc hA 1 ((L.length : Int) + 1))
  rw [slice_all, hl] at HS
  have hw : IntKind.i64.wrap ((n : Int) + 1) = (n : Int) + 1 := IntWalk.i64_in _ (by omega)
  clear h hok hnc hc hA hl
  go_enter Tryz.func33, Tryz.ntmps33
  go_wp2_with fail
  refine Calls.mono HS.out ?_
  rintro r w3 ⟨rfl, hb3⟩
  have HB := hide hb3
  clear hb3
  go_wp2
  go_ret
  exact ⟨rfl, HB.out⟩
end
end Go.Proofs.YtnbhejbpofjamaaGreatDoor
namespace Go.Proofs.YtnbhejbpofjamaaGreatDoor
open Go.RowKit

/-- The reference's blocks. -/
abbrev rHeap (rb : Nat) (v : Value) (L : List Nat) : Heap := (rb, .cells 107 #[v]) :: rowOf 3 1 v L.length (ints L)
structure RtAt (W w : World) (rb : Nat) (v : Value) (L : List Nat) (R : Heap) : Prop where
  own : Own W w (rHeap rb v L ++ R)
  ok : RowOk v L.length
section
variable {W w w' : World} {rb : Nat} {v : Value} {L : List Nat} {R : Heap}
theorem RtAt.below (h : RtAt W w rb v L R) (hb : Below w.heap.size w w') : RtAt W w' rb v L R := ⟨h.own.below hb, h.ok⟩
theorem RtAt.blk (h : RtAt W w rb v L R) : Blk w rb 107 #[v] := h.own.blk (List.mem_cons_self ..)
theorem RtAt.sl (h : RtAt W w rb v L R) : Sl w 3 1 v L.length (ints L) := h.own.slOf (fun x hx => List.mem_cons_of_mem _ (List.mem_append_left _ hx)) (by rw [ints_size, Nat.mul_one]) h.ok
theorem RtAt.rest (h : RtAt W w rb v L R) : Own W w R := h.own.sub ((List.sublist_append_right _ _).cons _)
/-- The characters are laid anew. -/
theorem RtAt.set {v' : Value} {L' : List Nat} (h : RtAt W w rb v L R) (hb : Below w.heap.size w w') (hs : Sl w' 3 1 v' L'.length (ints L')) (hf : ∀ g, v'.ownBlock = some g → w.heap.size ≤ g) : RtAt W (w'.setCell ⟨rb, 0, none⟩ v') rb v' L' R := by
  have h1 := h.own.joinRow hb hs hf
  have h2 := (h1.perm (List.perm_middle (a := (rb, Ast.cells 107 #[v])))).setCell 0 v'
  refine ⟨h2.sub ?_, hs.rowOk⟩
  exact ((List.Sublist.refl _).append (List.sublist_append_right _ _)).cons_cons _
theorem RtAt.setn {v' : Value} {L' : List Nat} {N : Nat} (h : RtAt W w rb v L R) (hN : N = L'.length) (hb : Below w.heap.size w w') (hs : Sl w' 3 1 v' N (ints L')) (hf : ∀ g, v'.ownBlock = some g → w.heap.size ≤ g) : RtAt W (w'.setCell ⟨rb, 0, none⟩ v') rb v' L' R := by
  subst hN
  exact h.set hb hs hf
theorem Sl.cases {w : World} {T : TypeId} {k n : Nat} {v : Value} {xs : List Value} (h : Sl w T k v n xs) : (v = .slice none 0 0 ∧ n = 0) ∨ ∃ g off c, v = .slice (some ⟨g, off, none⟩) n c ∧ n ≤ c ∧ c ≤ maxLen := by
  rcases h.2 with h0 | ⟨g, off, cap, cs, rfl, _, h1, h2, _⟩
  · exact .inl h0
  · exact .inr ⟨g, off, cap, rfl, h1, h2⟩
/-- What is wanted to read it. -/
theorem RtAt.open_ (h : RtAt W w rb v L R) (h6 : L.length ≤ 65536) : ∃ A c, v = .slice A L.length c ∧ RtIn w rb A L.length c L ∧ L.length ≤ c ∧ c ≤ maxLen ∧ ((A = none ∧ c = 0) ∨ ∃ g off, A = some ⟨g, off, none⟩) := by
  have hs := h.sl
  rcases hs.cases with ⟨rfl, hn⟩ | ⟨g, off, c, rfl, h1, h2⟩
  · have hr := hs.rd
    rw [hn] at hr ⊢
    exact ⟨none, 0, rfl, ⟨by rw [h.blk.cell]; rfl, hr, by omega⟩, Nat.le_refl _, by unfold maxLen; omega, .inl ⟨rfl, rfl⟩⟩
  · exact ⟨some ⟨g, off, none⟩, c, rfl, ⟨by rw [h.blk.cell]; rfl, hs.rd, h6⟩, h1, h2, .inr ⟨g, off, rfl⟩⟩
theorem chars_no {s : ByteArray} (hv : validS s = false) : charsL s.data.toList = none := by
  unfold validS at hv
  cases h : charsL s.data.toList with
  | none => rfl
  | some l => rw [h] at hv; cases hv
theorem list_no {s : ByteArray} (w : World) (hs : s.size * 8 ≤ 140737488355328) (hv : validS s = false) : Calls Tryz.prog 47 #[.string s] w fun e w' => e = .returned (.tuple #[.slice none 0 0, .int .i64 5]) ∧ Below w.heap.size w w' := by
  refine (ref_list_any s w hs).mono ?_
  rintro e w' ⟨hb, hm⟩
  rw [chars_no hv] at hm
  exact ⟨hm, hb⟩
theorem list_yes {s : ByteArray} (w : World) (hs : s.size * 8 ≤ 140737488355328) (hv : validS s = true) : Calls Tryz.prog 47 #[.string s] w fun e w' => ∃ B d, e = .returned (.tuple #[.slice B (charsOf s).length d, .int .i64 0]) ∧ Sl w' 3 1 (.slice B (charsOf s).length d) (charsOf s).length (ints (charsOf s)) ∧ (∀ g, (Value.slice B (charsOf s).length d).ownBlock = some g → w.heap.size ≤ g) ∧ Below w.heap.size w w' := by
  refine (ref_list_any s w hs).mono ?_
  rintro e w' ⟨hb, hm⟩
  rw [charsOf_eq hv] at hm
  obtain ⟨v, rfl, hsl, hf⟩ := hm
  obtain ⟨B, d, rfl, _⟩ := hsl.form
  exact ⟨B, d, rfl, hsl, hf, hb⟩
set_option maxRecDepth 100000 in
set_option maxHeartbeats 4000000 in
theorem rnew_any (h : Own W w R) (s : ByteArray) (hs : s.size ≤ 300) : Calls Tryz.prog 109 #[.string s] w fun e w' => (validS s = false ∧ e = .returned (.tuple #[.pointer none, .int .i64 5]) ∧ Own W w' R) ∨ (validS s = true ∧ ∃ rb v, e = .returned (.tuple #[.pointer (some ⟨rb, 0, none⟩), .int .i64 0]) ∧ RtAt W w' rb v (charsOf s) R) := by
  have H := hide h
  cases hv : validS s with
  | false =>
    have HL := hide (list_no w (by omega) hv)
    clear h hv
    go_enter Tryz.func109, Tryz.ntmps109
    go_wp2_with fail
    refine Calls.mono HL.out ?_
    rintro r w2 ⟨rfl, hb⟩
    have HB := hide hb
    clear hb
    go_wp2
    go_ret2
    exact .inl ⟨by trivial, rfl, H.out.below HB.out⟩
  | true =>
    have HL := hide (list_yes w (by omega) hv)
    have hm3 : (charsOf s).length ≤ 300 := by rw [← lenS_eq]; have := lenS_le s; omega
    obtain ⟨X, hX⟩ : ∃ X, X = charsOf s := ⟨_, rfl⟩
    rw [← hX] at HL hm3 ⊢
    obtain ⟨m, hm⟩ : ∃ m, m = X.length := ⟨_, rfl⟩
    rw [← hm] at HL hm3
    have HM := hide hm
    have y1 : decide (65536 < m) = false := decide_eq_false (by omega)
    have y2 : decide ((65536 : Int) < (m : Int)) = false := decide_eq_false (by omega)
    clear h hX hm hv
    go_enter Tryz.func109, Tryz.ntmps109
    go_wp2_with fail
    refine Calls.mono HL.out ?_
    rintro r w2 ⟨B, d, rfl, hsl, hf, hb⟩
    have HR := hide (show RtAt W (w2.alloc (.cells #[.slice B m d] 107)) w2.heap.size (.slice B m d) X R from by
      rw [HM.out] at hsl ⊢
      rw [HM.out] at hf
      exact ⟨(H.out.joinRow hb hsl hf).newCells 107 #[.slice B X.length d], hsl.rowOk⟩)
    clear hsl hf hb
    go_wp2
    go_ret2
    exact .inr ⟨by trivial, _, _, rfl, HR.out⟩
theorem fin_ins {L X : List Nat} {k n m : Nat} (hl : L.length = n) (hm : X.length = m) (hk : k ≤ n) {w : World} {v : Value} (h : Sl w 3 1 v (k + m + (n - k)) (ints (L.take k) ++ ints X ++ ints (L.drop k))) : Sl w 3 1 v (L.take k ++ X ++ L.drop k).length (ints (L.take k ++ X ++ L.drop k)) := by
  have e1 : (L.take k ++ X ++ L.drop k).length = k + m + (n - k) := by simp only [List.length_append, List.length_take, List.length_drop]; omega
  rw [e1, ints_append, ints_append]
  exact h
theorem rd_take {w : World} {g off n c k : Nat} {L : List Nat} (h : Rd w (.slice (some ⟨g, off, none⟩) n c) 1 n (ints L)) (hk : k ≤ n) : Rd w (.slice (some ⟨g, off, none⟩) k c) 1 k (ints (L.take k)) := by
  have h1 := h.front hk c
  rw [Nat.mul_one, ← ints_take] at h1
  exact h1
theorem rd_drop {w : World} {g off n c k : Nat} {L : List Nat} (h : Rd w (.slice (some ⟨g, off, none⟩) n c) 1 n (ints L)) (hk : k ≤ n) (hnc : n ≤ c) : Rd w (.slice (if c = k then some ⟨g, off, none⟩ else some ⟨g, off + k, none⟩) (n - k) (c - k)) 1 (n - k) (ints (L.drop k)) := by
  have h1 := h.back_if hk hnc (c - k)
  rw [Nat.mul_one, ← ints_drop] at h1
  exact h1
theorem rd_take0 {w : World} {L : List Nat} : Rd w (.slice none 0 0) 1 0 (ints (L.take 0)) := by
  rw [List.take_zero]
  exact rd_zero w none
theorem rd_drop0 {w : World} {L : List Nat} (h : L.length = 0) : Rd w (.slice none 0 0) 1 0 (ints (L.drop 0)) := by
  rw [List.eq_nil_of_length_eq_zero h]
  exact rd_zero w none
set_option maxRecDepth 100000 in
set_option maxHeartbeats 16000000 in
theorem rins_any (h : RtAt W w rb v L R) (h6 : L.length ≤ 65536) (x : Int) (s : ByteArray) (hs : s.size ≤ 1000) : Calls Tryz.prog 117 #[.pointer (some ⟨rb, 0, none⟩), .int .i64 x, .string s] w fun e w' => e = .returned (.int .i64 (insErr L x s)) ∧ ∃ v', RtAt W w' rb v' (insL L x s) R := by
  obtain ⟨A, c, hv, hin, hnc, hc, hA⟩ := h.open_ h6
  obtain ⟨n, hn⟩ : ∃ n, n = L.length := ⟨_, rfl⟩
  rw [← hn] at hv hin hnc h6
  subst hv
  have c0 := hin.c0
  have H := hide h
  have HL := hide hn.symm
  have HI := hide hin
  have hw : IntKind.i64.wrap ((n : Int) + 1) = (n : Int) + 1 := IntWalk.i64_in _ (by omega)
  have HBAD := hide (fun (k : Int) (h1 : insErr L x s = k) (h2 : k ≠ 0) => (show insL L x s = L by
    unfold insL
    rw [h1, if_neg h2]))
  by_cases h1 : x < 1
  · have z1 : decide (x < 1) = true := by simpa using h1
    have HE := hide (show insErr L x s = 3 by unfold insErr; rw [if_pos (.inl h1)])
    clear h hin hn h1 hA
    go_enter Tryz.func117, Tryz.ntmps117
    go_wp2
    go_ret
    exact ⟨by rw [HE.out]; rfl, _, by rw [HBAD.out _ HE.out (by decide)]; exact H.out⟩
  have z1 : decide (x < 1) = false := by simpa using h1
  by_cases h2 : (n : Int) + 1 < x
  · have z2 : decide ((n : Int) + 1 < x) = true := by simpa using h2
    have HE := hide (show insErr L x s = 3 by unfold insErr; rw [if_pos (.inr (by rw [← hn]; exact h2))])
    clear h hin hn h1 h2 hA
    go_enter Tryz.func117, Tryz.ntmps117
    go_wp2
    go_ret
    exact ⟨by rw [HE.out]; rfl, _, by rw [HBAD.out _ HE.out (by decide)]; exact H.out⟩
  have z2 : decide ((n : Int) + 1 < x) = false := by simpa using h2
  cases hvs : validS s with
  | false =>
    have HE := hide (show insErr L x s = 5 by unfold insErr; rw [if_neg (by rw [← hn]; omega), if_pos hvs])
    have HLS := hide (list_no w (by omega) hvs)
    clear h hin hn h1 h2 hA hvs
    go_enter Tryz.func117, Tryz.ntmps117
    go_wp2_with fail
    refine Calls.mono HLS.out ?_
    rintro r w2 ⟨rfl, hb⟩
    have HB := hide hb
    clear hb
    go_wp2
    go_ret
    exact ⟨by rw [HE.out]; rfl, _, by rw [HBAD.out _ HE.out (by decide)]; exact H.out.below HB.out⟩
  | true =>
    have HLS := hide (list_yes w (by omega) hvs)
    have hm3 : (charsOf s).length ≤ 1000 := by rw [← lenS_eq]; have := lenS_le s; omega
    have HERR := hide (show insErr L x s = if 65536 < L.length + (charsOf s).length then 4 else 0 by unfold insErr; rw [if_neg (by rw [← hn]; omega), if_neg (by rw [hvs]; decide), lenS_eq])
    have HINS := hide (fun h0 : insErr L x s = 0 => show insL L x s = L.take (x - 1).toNat ++ charsOf s ++ L.drop (x - 1).toNat by unfold insL; rw [if_pos h0])
    obtain ⟨k, rfl⟩ : ∃ k : Nat, x = (k : Int) + 1 := ⟨(x - 1).toNat, by omega⟩
    rw [show ((k : Int) + 1 - 1).toNat = k by omega] at HINS
    obtain ⟨X, hX⟩ : ∃ X, X = charsOf s := ⟨_, rfl⟩
    rw [← hX] at HLS hm3 HERR HINS
    obtain ⟨m, hm⟩ : ∃ m, m = X.length := ⟨_, rfl⟩
    rw [← hm] at HLS hm3 HERR
    have HM := hide hm.symm
    have hk : k ≤ n := by omega
    have hw2 : IntKind.i64.wrap ((65536 : Int) - (n : Int)) = (65536 : Int) - (n : Int) := IntWalk.i64_in _ (by omega)
    rw [← hn] at HERR
    clear h hn h1 h2 hvs hX hm hin
    by_cases h4 : 65536 < n + m
    · have z3 : decide ((65536 : Int) - (n : Int) < (m : Int)) = true := decide_eq_true (by omega)
      rw [if_pos h4] at HERR
      clear h4 hA
      go_enter Tryz.func117, Tryz.ntmps117
      go_wp2_with fail
      refine Calls.mono HLS.out ?_
      rintro r w2 ⟨B, d, rfl, hsl, hf, hb⟩
      have HR2 := hide (H.out.below hb)
      have d0 : w2.cell? ⟨rb, 0, none⟩ = some (.slice A n c) := by rw [HR2.out.blk.cell]; rfl
      clear hsl hf hb
      go_wp2
      go_ret
      exact ⟨by rw [HERR.out]; rfl, _, by rw [HBAD.out _ HERR.out (by decide)]; exact HR2.out⟩
    · have z3 : decide ((65536 : Int) - (n : Int) < (m : Int)) = false := decide_eq_false (by omega)
      rw [if_neg h4] at HERR
      rw [HINS.out HERR.out]
      have hnm : n + m ≤ 65536 := by omega
      obtain ⟨Z, hZ⟩ : ∃ Z, Z = L.take k ++ X ++ L.drop k := ⟨_, rfl⟩
      obtain ⟨N, hN⟩ : ∃ N, N = Z.length := ⟨_, rfl⟩
      have HFIN := hide (fun (w' : World) (v' : Value) (h : Sl w' 3 1 v' (k + m + (n - k)) (ints (L.take k) ++ ints X ++ ints (L.drop k))) => (show Sl w' 3 1 v' N (ints Z) by rw [hN, hZ]; exact fin_ins (w := w') (v := v') HL.out HM.out hk h))
      rw [← hZ]
      have HNZ := hide hN
      clear hZ hN
      have hw3 : IntKind.i64.wrap ((k : Int) + 1 - 1) = (k : Int) := by
        rw [show (k : Int) + 1 - 1 = (k : Int) by omega]
        exact IntWalk.i64_in _ (by omega)
      have hw5 : IntKind.i64.wrap (k : Int) = (k : Int) := IntWalk.i64_in _ (by omega)
      have hw0 : IntKind.i64.wrap 0 = 0 := IntWalk.i64_in _ (by omega)
      clear h4 HINS HBAD
      unfold maxLen at hc
      go_enter Tryz.func117, Tryz.ntmps117
      go_wp2_with fail
      refine Calls.mono HLS.out ?_
      rintro r w2 ⟨B, d, rfl, hsl, hf, hb⟩
      have HR2 := hide (H.out.below hb)
      have HSX := hide hsl
      have d0 : w2.cell? ⟨rb, 0, none⟩ = some (.slice A n c) := by rw [HR2.out.blk.cell]; rfl
      clear hsl hf hb c0
      go_wp2_with fail
      rcases hA with ⟨rfl, rfl⟩ | ⟨g, off, rfl⟩
      · obtain rfl : n = 0 := by omega
        obtain rfl : k = 0 := by omega
        have H5 := hide (HR2.out.below (Below.refl _ _).drew)
        have HMX := hide (HSX.out.rd.belowF (Below.refl _ _).drew)
        refine wp_region_d (S := fun w' => w'.cell? ⟨rb, 0, none⟩ = some (.slice none 0 0)) (D := [22]) (by kernel_rfl) ?_
        change wpAnyD _ _ _ _ _ _ _ _ _ w2.drew
        generalize w2.drew = w0 at H5 HMX ⊢
        have b0 := hide (Below.refl w0.heap.size w0)
        have HQ := hide (show ∀ w', Below w0.heap.size w0 w' → w'.cell? ⟨rb, 0, none⟩ = some (.slice none 0 0) from fun w' hb => by rw [(H5.out.below hb).blk.cell]; rfl)
        have HFT := hide (fun w' (_ : Below w0.heap.size w0 w') => rd_take0 (w := w') (L := L))
        have HBK := hide (fun w' (_ : Below w0.heap.size w0 w') => rd_drop0 (w := w') HL.out)
        have HMD := hide (fun w' (hb : Below w0.heap.size w0 w') => HMX.out.belowF hb)
        obtain ⟨i0, hi, hz0, hz1, hz2⟩ := info_parts info_int
        have hS := HQ.out _ b0.out
        refine wpAnyD_takeW (i := 0) (oi := { dst := some 40, op := Op.move (Operand.tmp 0), type := 54, pos := "ref.go:65", after := #[], guard := none }) (v := ?_) rfl (by kernel_rfl) (by kernel_rfl) (by kernel_rfl) (fun _ _ _ h => h) (Or.inl ⟨by rfl, ?_⟩) ?_
        rotate_left
        · intro w hSw
          clear hSw
          go_simp
          all_goals with_reducible rfl
        simp only [Act.put, List.setIfInBounds_toArray, List.set_cons_zero, List.set_cons_succ]
        refine wpAnyD_takeW (i := 2) (oi := { dst := some 42, op := Op.move (Operand.tmp 0), type := 54, pos := "ref.go:65", after := #[], guard := none }) (v := ?_) rfl (by kernel_rfl) (by kernel_rfl) (by kernel_rfl) (fun _ _ _ h => h) (Or.inl ⟨by rfl, ?_⟩) ?_
        rotate_left
        · intro w hSw
          clear hSw
          go_simp
          all_goals with_reducible rfl
        simp only [Act.put, List.setIfInBounds_toArray, List.set_cons_zero, List.set_cons_succ]
        refine wpAnyD_takeW (i := 3) (oi := { dst := some 43, op := Op.nilCheck (Operand.tmp 42), type := 0, pos := "ref.go:65", after := #[{ on := 2, ground := Ground.data }], guard := none }) (v := ?_) rfl (by kernel_rfl) (by kernel_rfl) (by kernel_rfl) (fun _ _ _ h => h) (Or.inl ⟨by rfl, ?_⟩) ?_
        rotate_left
        · intro w hSw
          clear hSw
          go_simp
          all_goals with_reducible rfl
        simp only [Act.put, List.setIfInBounds_toArray, List.set_cons_zero, List.set_cons_succ]
        refine wpAnyD_takeW (i := 4) (oi := { dst := some 44, op := Op.fieldAddr 107 (Operand.tmp 43) 0, type := 0, pos := "ref.go:65", after := #[{ on := 3, ground := Ground.data }], guard := none }) (v := ?_) rfl (by kernel_rfl) (by kernel_rfl) (by kernel_rfl) (fun _ _ _ h => h) (Or.inl ⟨by rfl, ?_⟩) ?_
        rotate_left
        · intro w hSw
          clear hSw
          go_simp
          all_goals with_reducible rfl
        simp only [Act.put, List.setIfInBounds_toArray, List.set_cons_zero, List.set_cons_succ]
        refine wpAnyD_take (i := 5) (oi := { dst := some 45, op := Op.load 32 (Operand.tmp 44), type := 32, pos := "ref.go:65", after := #[{ on := 4, ground := Ground.data }], guard := none }) (v := ?_) rfl (by kernel_rfl) (by kernel_rfl) (by kernel_rfl) (by kernel_rfl) (by kernel_rfl) (fun _ _ _ h => h) (Or.inl ⟨by rfl, ?_⟩) hS ?_
        rotate_left
        · intro w hSw
          (try dsimp only at hSw)
          go_simp
          all_goals with_reducible rfl
        simp only [Act.put, List.setIfInBounds_toArray, List.set_cons_zero, List.set_cons_succ]
        refine wpAnyD_takeW (i := 6) (oi := { dst := some 46, op := Op.move (Operand.tmp 1), type := 3, pos := "ref.go:65", after := #[], guard := none }) (v := ?_) rfl (by kernel_rfl) (by kernel_rfl) (by kernel_rfl) (fun _ _ _ h => h) (Or.inl ⟨by rfl, ?_⟩) ?_
        rotate_left
        · intro w hSw
          clear hSw
          go_simp
          all_goals with_reducible rfl
        simp only [Act.put, List.setIfInBounds_toArray, List.set_cons_zero, List.set_cons_succ]
        refine wpAnyD_takeW (i := 7) (oi := { dst := some 47, op := Op.binOp BinOp.sub 3 (Operand.tmp 46) (Operand.const (Value.int IntKind.i64 1)) 3, type := 3, pos := "ref.go:65", after := #[{ on := 6, ground := Ground.data }], guard := none }) (v := ?_) rfl (by kernel_rfl) (by kernel_rfl) (by kernel_rfl) (fun _ _ _ h => h) (Or.inl ⟨by rfl, ?_⟩) ?_
        rotate_left
        · intro w hSw
          clear hSw
          go_simp
          all_goals with_reducible rfl
        simp only [Act.put, List.setIfInBounds_toArray, List.set_cons_zero, List.set_cons_succ]
        refine wpAnyD_takeW (i := 8) (oi := { dst := some 48, op := Op.slice 32 (Operand.tmp 45) none (some (Operand.tmp 47)) none, type := 32, pos := "ref.go:65", after := #[{ on := 5, ground := Ground.data }, { on := 7, ground := Ground.data }], guard := none }) (v := ?_) rfl (by kernel_rfl) (by kernel_rfl) (by kernel_rfl) (fun _ _ _ h => h) (Or.inl ⟨by rfl, ?_⟩) ?_
        rotate_left
        · intro w hSw
          clear hSw
          go_simp
          all_goals with_reducible rfl
        simp only [Act.put, List.setIfInBounds_toArray, List.set_cons_zero, List.set_cons_succ]
        refine wpAnyD_takeW (i := 10) (oi := { dst := some 50, op := Op.move (Operand.tmp 7), type := 32, pos := "ref.go:65", after := #[], guard := none }) (v := ?_) rfl (by kernel_rfl) (by kernel_rfl) (by kernel_rfl) (fun _ _ _ h => h) (Or.inl ⟨by rfl, ?_⟩) ?_
        rotate_left
        · intro w hSw
          clear hSw
          go_simp
          all_goals with_reducible rfl
        simp only [Act.put, List.setIfInBounds_toArray, List.set_cons_zero, List.set_cons_succ]
        refine wpAnyD_takeW (i := 12) (oi := { dst := some 52, op := Op.move (Operand.tmp 0), type := 54, pos := "ref.go:65", after := #[], guard := none }) (v := ?_) rfl (by kernel_rfl) (by kernel_rfl) (by kernel_rfl) (fun _ _ _ h => h) (Or.inl ⟨by rfl, ?_⟩) ?_
        rotate_left
        · intro w hSw
          clear hSw
          go_simp
          all_goals with_reducible rfl
        simp only [Act.put, List.setIfInBounds_toArray, List.set_cons_zero, List.set_cons_succ]
        refine wpAnyD_takeW (i := 13) (oi := { dst := some 53, op := Op.nilCheck (Operand.tmp 52), type := 0, pos := "ref.go:65", after := #[{ on := 12, ground := Ground.data }], guard := none }) (v := ?_) rfl (by kernel_rfl) (by kernel_rfl) (by kernel_rfl) (fun _ _ _ h => h) (Or.inl ⟨by rfl, ?_⟩) ?_
        rotate_left
        · intro w hSw
          clear hSw
          go_simp
          all_goals with_reducible rfl
        simp only [Act.put, List.setIfInBounds_toArray, List.set_cons_zero, List.set_cons_succ]
        refine wpAnyD_takeW (i := 14) (oi := { dst := some 54, op := Op.fieldAddr 107 (Operand.tmp 53) 0, type := 0, pos := "ref.go:65", after := #[{ on := 13, ground := Ground.data }], guard := none }) (v := ?_) rfl (by kernel_rfl) (by kernel_rfl) (by kernel_rfl) (fun _ _ _ h => h) (Or.inl ⟨by rfl, ?_⟩) ?_
        rotate_left
        · intro w hSw
          clear hSw
          go_simp
          all_goals with_reducible rfl
        simp only [Act.put, List.setIfInBounds_toArray, List.set_cons_zero, List.set_cons_succ]
        refine wpAnyD_take (i := 15) (oi := { dst := some 55, op := Op.load 32 (Operand.tmp 54), type := 32, pos := "ref.go:65", after := #[{ on := 14, ground := Ground.data }], guard := none }) (v := ?_) rfl (by kernel_rfl) (by kernel_rfl) (by kernel_rfl) (by kernel_rfl) (by kernel_rfl) (fun _ _ _ h => h) (Or.inl ⟨by rfl, ?_⟩) hS ?_
        rotate_left
        · intro w hSw
          (try dsimp only at hSw)
          go_simp
          all_goals with_reducible rfl
        simp only [Act.put, List.setIfInBounds_toArray, List.set_cons_zero, List.set_cons_succ]
        refine wpAnyD_takeW (i := 16) (oi := { dst := some 56, op := Op.move (Operand.tmp 1), type := 3, pos := "ref.go:65", after := #[], guard := none }) (v := ?_) rfl (by kernel_rfl) (by kernel_rfl) (by kernel_rfl) (fun _ _ _ h => h) (Or.inl ⟨by rfl, ?_⟩) ?_
        rotate_left
        · intro w hSw
          clear hSw
          go_simp
          all_goals with_reducible rfl
        simp only [Act.put, List.setIfInBounds_toArray, List.set_cons_zero, List.set_cons_succ]
        refine wpAnyD_takeW (i := 17) (oi := { dst := some 57, op := Op.binOp BinOp.sub 3 (Operand.tmp 56) (Operand.const (Value.int IntKind.i64 1)) 3, type := 3, pos := "ref.go:65", after := #[{ on := 16, ground := Ground.data }], guard := none }) (v := ?_) rfl (by kernel_rfl) (by kernel_rfl) (by kernel_rfl) (fun _ _ _ h => h) (Or.inl ⟨by rfl, ?_⟩) ?_
        rotate_left
        · intro w hSw
          clear hSw
          go_simp
          all_goals with_reducible rfl
        simp only [Act.put, List.setIfInBounds_toArray, List.set_cons_zero, List.set_cons_succ]
        refine wpAnyD_takeW (i := 18) (oi := { dst := some 58, op := Op.slice 32 (Operand.tmp 55) (some (Operand.tmp 57)) none none, type := 32, pos := "ref.go:65", after := #[{ on := 15, ground := Ground.data }, { on := 17, ground := Ground.data }], guard := none }) (v := ?_) rfl (by kernel_rfl) (by kernel_rfl) (by kernel_rfl) (fun _ _ _ h => h) (Or.inl ⟨by rfl, ?_⟩) ?_
        rotate_left
        · intro w hSw
          clear hSw
          go_simp
          all_goals with_reducible rfl
        simp only [Act.put, List.setIfInBounds_toArray, List.set_cons_zero, List.set_cons_succ]
        clear hS
        refine wpAnyD_one (i := 1) (o := { dst := some 41, op := Op.buildSlice 32 0 #[], type := 32, pos := "ref.go:65", after := #[], guard := none }) (by kernel_rfl) rfl (fun K hK => ?_)
        have b1 := hide (b0.out.alloc b0.out.size (.cells #[] 3))
        have E1 := hide (show Sl (w0.alloc (.cells #[] 3)) 3 1 (.slice (some ⟨w0.heap.size, 0, none⟩) 0 0) 0 [] from by simpa using (Sl.new w0 3 1 #[] 0 0 (Nat.le_refl _) (Nat.zero_le _) (Nat.le_refl _)))
        have V1 := hide (show ∀ g, (Value.slice (some ⟨w0.heap.size, 0, none⟩) 0 0).ownBlock = some g → w0.heap.size ≤ g from fun g hg => by
          cases hg
          exact Nat.le_refl _)
        go_simp
        refine hK _ _ (fun _ _ => HQ.out _ b1.out) ?_
        clear hK K
        try simp only [Act.put, List.setIfInBounds_toArray, List.set_cons_zero, List.set_cons_succ]
        refine wpAnyD_one (i := 9) (o := { dst := some 49, op := Op.call { callee := Callee.builtin Builtin.append, args := #[Operand.tmp 41, Operand.tmp 48], argTypes := #[32, 32] }, type := 32, pos := "ref.go:65", after := #[{ on := 1, ground := Ground.data }, { on := 8, ground := Ground.data }], guard := none }) (by kernel_rfl) rfl (fun K hK => ?_)
        refine step_append_w (by rfl) (.tmp 41) (.tmp 48) 32 rfl 3 i0 _ 1 8 Tryz.underlying32 hi hz0 hz1 hz2 rfl (.slice (some ⟨w0.heap.size, 0, none⟩) 0 0) (0) ([]) rfl E1.out _ rfl 0 (ints (L.take 0)) (HFT.out _ b1.out) (ints_one _) (by unfold maxLen; omega) (by omega) ?_
        intro v2 w2 hs2 ho2 hv2
        rw [Nat.zero_add, List.nil_append] at hs2
        have b2 := hide (b1.out.trans (ho2.below b1.out.size fun i hi => V1.out i hi))
        have E2 := hide hs2
        have V2 := hide (show ∀ g, v2.ownBlock = some g → w0.heap.size ≤ g from fun g hg => by
          rcases hv2 with e | e
          · exact V1.out g (by rw [← e]; exact hg)
          · rw [e] at hg
            cases hg
            exact b1.out.size)
        clear hs2 ho2 hv2
        refine hK _ _ (fun _ _ => HQ.out _ b2.out) ?_
        clear hK K
        try simp only [Act.put, List.setIfInBounds_toArray, List.set_cons_zero, List.set_cons_succ]
        refine wpAnyD_one (i := 11) (o := { dst := some 51, op := Op.call { callee := Callee.builtin Builtin.append, args := #[Operand.tmp 49, Operand.tmp 50], argTypes := #[32, 32] }, type := 32, pos := "ref.go:65", after := #[{ on := 9, ground := Ground.data }, { on := 10, ground := Ground.data }, { on := 9, ground := Ground.chain }], guard := none }) (by kernel_rfl) rfl (fun K hK => ?_)
        refine step_append_w (by rfl) (.tmp 49) (.tmp 50) 32 rfl 3 i0 _ 1 8 Tryz.underlying32 hi hz0 hz1 hz2 rfl v2 (0) (ints (L.take 0)) rfl E2.out _ rfl m (ints X) (HMD.out _ b2.out) (ints_one _) (by unfold maxLen; omega) (by omega) ?_
        intro v3 w3 hs3 ho3 hv3
        have b3 := hide (b2.out.trans (ho3.below b2.out.size fun i hi => V2.out i hi))
        have E3 := hide hs3
        have V3 := hide (show ∀ g, v3.ownBlock = some g → w0.heap.size ≤ g from fun g hg => by
          rcases hv3 with e | e
          · exact V2.out g (by rw [← e]; exact hg)
          · rw [e] at hg
            cases hg
            exact b2.out.size)
        clear hs3 ho3 hv3
        refine hK _ _ (fun _ _ => HQ.out _ b3.out) ?_
        clear hK K
        try simp only [Act.put, List.setIfInBounds_toArray, List.set_cons_zero, List.set_cons_succ]
        refine wpAnyD_one (i := 19) (o := { dst := some 59, op := Op.call { callee := Callee.builtin Builtin.append, args := #[Operand.tmp 51, Operand.tmp 58], argTypes := #[32, 32] }, type := 32, pos := "ref.go:65", after := #[{ on := 11, ground := Ground.data }, { on := 18, ground := Ground.data }, { on := 11, ground := Ground.chain }], guard := none }) (by kernel_rfl) rfl (fun K hK => ?_)
        refine step_append_w (by rfl) (.tmp 51) (.tmp 58) 32 rfl 3 i0 _ 1 8 Tryz.underlying32 hi hz0 hz1 hz2 rfl v3 (0 + m) (ints (L.take 0) ++ ints X) rfl E3.out _ rfl 0 (ints (L.drop 0)) (HBK.out _ b3.out) (ints_one _) (by unfold maxLen; omega) (by omega) ?_
        intro v4 w4 hs4 ho4 hv4
        have b4 := hide (b3.out.trans (ho4.below b3.out.size fun i hi => V3.out i hi))
        have E4 := hide hs4
        have V4 := hide (show ∀ g, v4.ownBlock = some g → w0.heap.size ≤ g from fun g hg => by
          rcases hv4 with e | e
          · exact V3.out g (by rw [← e]; exact hg)
          · rw [e] at hg
            cases hg
            exact b3.out.size)
        clear hs4 ho4 hv4
        refine hK _ _ (fun _ _ => HQ.out _ b4.out) ?_
        clear hK K
        try simp only [Act.put, List.setIfInBounds_toArray, List.set_cons_zero, List.set_cons_succ]
        have EF := hide (HFIN.out _ _ E4.out)
        obtain ⟨Ax, cx, hvx, _⟩ := id EF.out.form
        subst hvx
        refine wpAnyD_takeW (i := 20) (oi := { dst := some 60, op := Op.nilCheck (Operand.tmp 40), type := 0, pos := "ref.go:65", after := #[{ on := 0, ground := Ground.data }, { on := 0, ground := Ground.phase }, { on := 1, ground := Ground.phase }, { on := 2, ground := Ground.phase }, { on := 3, ground := Ground.phase }, { on := 4, ground := Ground.phase }, { on := 5, ground := Ground.phase }, { on := 6, ground := Ground.phase }, { on := 7, ground := Ground.phase }, { on := 8, ground := Ground.phase }, { on := 9, ground := Ground.phase }, { on := 10, ground := Ground.phase }, { on := 11, ground := Ground.phase }, { on := 12, ground := Ground.phase }, { on := 13, ground := Ground.phase }, { on := 14, ground := Ground.phase }, { on := 15, ground := Ground.phase }, { on := 16, ground := Ground.phase }, { on := 17, ground := Ground.phase }, { on := 18, ground := Ground.phase }, { on := 19, ground := Ground.phase }], guard := none }) (v := ?_) rfl (by kernel_rfl) (by kernel_rfl) (by kernel_rfl) (fun _ _ _ h => h) (Or.inl ⟨by rfl, ?_⟩) ?_
        rotate_left
        · intro w hSw
          clear hSw
          go_simp
          all_goals with_reducible rfl
        simp only [Act.put, List.setIfInBounds_toArray, List.set_cons_zero, List.set_cons_succ]
        refine wpAnyD_takeW (i := 21) (oi := { dst := some 61, op := Op.fieldAddr 107 (Operand.tmp 60) 0, type := 0, pos := "ref.go:65", after := #[{ on := 20, ground := Ground.data }, { on := 0, ground := Ground.phase }, { on := 1, ground := Ground.phase }, { on := 2, ground := Ground.phase }, { on := 3, ground := Ground.phase }, { on := 4, ground := Ground.phase }, { on := 5, ground := Ground.phase }, { on := 6, ground := Ground.phase }, { on := 7, ground := Ground.phase }, { on := 8, ground := Ground.phase }, { on := 9, ground := Ground.phase }, { on := 10, ground := Ground.phase }, { on := 11, ground := Ground.phase }, { on := 12, ground := Ground.phase }, { on := 13, ground := Ground.phase }, { on := 14, ground := Ground.phase }, { on := 15, ground := Ground.phase }, { on := 16, ground := Ground.phase }, { on := 17, ground := Ground.phase }, { on := 18, ground := Ground.phase }, { on := 19, ground := Ground.phase }], guard := none }) (v := ?_) rfl (by kernel_rfl) (by kernel_rfl) (by kernel_rfl) (fun _ _ _ h => h) (Or.inl ⟨by rfl, ?_⟩) ?_
        rotate_left
        · intro w hSw
          clear hSw
          go_simp
          all_goals with_reducible rfl
        simp only [Act.put, List.setIfInBounds_toArray, List.set_cons_zero, List.set_cons_succ]
        have fz : w4.frozen? ⟨rb, 0, none⟩ = false := (H5.out.below b4.out).blk.frozen 0
        have hS := HQ.out _ b4.out
        refine wpAnyD_one (i := 22) (o := { dst := none, op := Op.store 32 (Operand.tmp 61) (Operand.tmp 59), type := 0, pos := "ref.go:65", after := #[{ on := 21, ground := Ground.data }, { on := 19, ground := Ground.data }, { on := 19, ground := Ground.chain }, { on := 0, ground := Ground.phase }, { on := 1, ground := Ground.phase }, { on := 2, ground := Ground.phase }, { on := 3, ground := Ground.phase }, { on := 4, ground := Ground.phase }, { on := 5, ground := Ground.phase }, { on := 6, ground := Ground.phase }, { on := 7, ground := Ground.phase }, { on := 8, ground := Ground.phase }, { on := 9, ground := Ground.phase }, { on := 10, ground := Ground.phase }, { on := 11, ground := Ground.phase }, { on := 12, ground := Ground.phase }, { on := 13, ground := Ground.phase }, { on := 14, ground := Ground.phase }, { on := 15, ground := Ground.phase }, { on := 16, ground := Ground.phase }, { on := 17, ground := Ground.phase }, { on := 18, ground := Ground.phase }, { on := 19, ground := Ground.phase }], guard := none }) (by kernel_rfl) rfl (fun K hK => ?_)
        go_simp
        refine hK _ _ (fun h => by cases h) ?_
        clear hK K
        try simp only [Act.put, List.setIfInBounds_toArray, List.set_cons_zero, List.set_cons_succ]
        refine wpAnyD_done (by kernel_rfl) ?_ _
        go_wp2
        all_goals go_ret
        all_goals exact ⟨by rw [HERR.out]; rfl, _, H5.out.setn HNZ.out b4.out EF.out V4.out⟩
      · have kb1 : (0 : Int) ≤ (k : Int) := by omega
        have kb2 : (k : Int) ≤ (c : Int) := by omega
        have kb3 : (k : Int) ≤ (n : Int) := by omega
        have kb4 : (n : Int) ≤ (c : Int) := by omega
        have H5 := hide (HR2.out.below (Below.refl _ _).drew)
        have HMX := hide (HSX.out.rd.belowF (Below.refl _ _).drew)
        refine wp_region_d (S := fun w' => w'.cell? ⟨rb, 0, none⟩ = some (.slice (some ⟨g, off, none⟩) n c)) (D := [22]) (by kernel_rfl) ?_
        change wpAnyD _ _ _ _ _ _ _ _ _ w2.drew
        generalize w2.drew = w0 at H5 HMX ⊢
        have b0 := hide (Below.refl w0.heap.size w0)
        have HQ := hide (show ∀ w', Below w0.heap.size w0 w' → w'.cell? ⟨rb, 0, none⟩ = some (.slice (some ⟨g, off, none⟩) n c) from fun w' hb => by rw [(H5.out.below hb).blk.cell]; rfl)
        have HFT := hide (fun w' (hb : Below w0.heap.size w0 w') => rd_take (k := k) (by have h1 := (H5.out.sl.rd).belowF hb; rwa [HL.out] at h1) (by omega))
        have HBK := hide (fun w' (hb : Below w0.heap.size w0 w') => rd_drop (k := k) (by have h1 := (H5.out.sl.rd).belowF hb; rwa [HL.out] at h1) (by omega) hnc)
        have HMD := hide (fun w' (hb : Below w0.heap.size w0 w') => HMX.out.belowF hb)
        obtain ⟨i0, hi, hz0, hz1, hz2⟩ := info_parts info_int
        have hS := HQ.out _ b0.out
        refine wpAnyD_takeW (i := 0) (oi := { dst := some 40, op := Op.move (Operand.tmp 0), type := 54, pos := "ref.go:65", after := #[], guard := none }) (v := ?_) rfl (by kernel_rfl) (by kernel_rfl) (by kernel_rfl) (fun _ _ _ h => h) (Or.inl ⟨by rfl, ?_⟩) ?_
        rotate_left
        · intro w hSw
          clear hSw
          go_simp
          all_goals with_reducible rfl
        simp only [Act.put, List.setIfInBounds_toArray, List.set_cons_zero, List.set_cons_succ]
        refine wpAnyD_takeW (i := 2) (oi := { dst := some 42, op := Op.move (Operand.tmp 0), type := 54, pos := "ref.go:65", after := #[], guard := none }) (v := ?_) rfl (by kernel_rfl) (by kernel_rfl) (by kernel_rfl) (fun _ _ _ h => h) (Or.inl ⟨by rfl, ?_⟩) ?_
        rotate_left
        · intro w hSw
          clear hSw
          go_simp
          all_goals with_reducible rfl
        simp only [Act.put, List.setIfInBounds_toArray, List.set_cons_zero, List.set_cons_succ]
        refine wpAnyD_takeW (i := 3) (oi := { dst := some 43, op := Op.nilCheck (Operand.tmp 42), type := 0, pos := "ref.go:65", after := #[{ on := 2, ground := Ground.data }], guard := none }) (v := ?_) rfl (by kernel_rfl) (by kernel_rfl) (by kernel_rfl) (fun _ _ _ h => h) (Or.inl ⟨by rfl, ?_⟩) ?_
        rotate_left
        · intro w hSw
          clear hSw
          go_simp
          all_goals with_reducible rfl
        simp only [Act.put, List.setIfInBounds_toArray, List.set_cons_zero, List.set_cons_succ]
        refine wpAnyD_takeW (i := 4) (oi := { dst := some 44, op := Op.fieldAddr 107 (Operand.tmp 43) 0, type := 0, pos := "ref.go:65", after := #[{ on := 3, ground := Ground.data }], guard := none }) (v := ?_) rfl (by kernel_rfl) (by kernel_rfl) (by kernel_rfl) (fun _ _ _ h => h) (Or.inl ⟨by rfl, ?_⟩) ?_
        rotate_left
        · intro w hSw
          clear hSw
          go_simp
          all_goals with_reducible rfl
        simp only [Act.put, List.setIfInBounds_toArray, List.set_cons_zero, List.set_cons_succ]
        refine wpAnyD_take (i := 5) (oi := { dst := some 45, op := Op.load 32 (Operand.tmp 44), type := 32, pos := "ref.go:65", after := #[{ on := 4, ground := Ground.data }], guard := none }) (v := ?_) rfl (by kernel_rfl) (by kernel_rfl) (by kernel_rfl) (by kernel_rfl) (by kernel_rfl) (fun _ _ _ h => h) (Or.inl ⟨by rfl, ?_⟩) hS ?_
        rotate_left
        · intro w hSw
          (try dsimp only at hSw)
          go_simp
          all_goals with_reducible rfl
        simp only [Act.put, List.setIfInBounds_toArray, List.set_cons_zero, List.set_cons_succ]
        refine wpAnyD_takeW (i := 6) (oi := { dst := some 46, op := Op.move (Operand.tmp 1), type := 3, pos := "ref.go:65", after := #[], guard := none }) (v := ?_) rfl (by kernel_rfl) (by kernel_rfl) (by kernel_rfl) (fun _ _ _ h => h) (Or.inl ⟨by rfl, ?_⟩) ?_
        rotate_left
        · intro w hSw
          clear hSw
          go_simp
          all_goals with_reducible rfl
        simp only [Act.put, List.setIfInBounds_toArray, List.set_cons_zero, List.set_cons_succ]
        refine wpAnyD_takeW (i := 7) (oi := { dst := some 47, op := Op.binOp BinOp.sub 3 (Operand.tmp 46) (Operand.const (Value.int IntKind.i64 1)) 3, type := 3, pos := "ref.go:65", after := #[{ on := 6, ground := Ground.data }], guard := none }) (v := ?_) rfl (by kernel_rfl) (by kernel_rfl) (by kernel_rfl) (fun _ _ _ h => h) (Or.inl ⟨by rfl, ?_⟩) ?_
        rotate_left
        · intro w hSw
          clear hSw
          go_simp
          all_goals with_reducible rfl
        simp only [Act.put, List.setIfInBounds_toArray, List.set_cons_zero, List.set_cons_succ]
        refine wpAnyD_takeW (i := 8) (oi := { dst := some 48, op := Op.slice 32 (Operand.tmp 45) none (some (Operand.tmp 47)) none, type := 32, pos := "ref.go:65", after := #[{ on := 5, ground := Ground.data }, { on := 7, ground := Ground.data }], guard := none }) (v := ?_) rfl (by kernel_rfl) (by kernel_rfl) (by kernel_rfl) (fun _ _ _ h => h) (Or.inl ⟨by rfl, ?_⟩) ?_
        rotate_left
        · intro w hSw
          clear hSw
          go_simp
          all_goals with_reducible rfl
        simp only [Act.put, List.setIfInBounds_toArray, List.set_cons_zero, List.set_cons_succ]
        refine wpAnyD_takeW (i := 10) (oi := { dst := some 50, op := Op.move (Operand.tmp 7), type := 32, pos := "ref.go:65", after := #[], guard := none }) (v := ?_) rfl (by kernel_rfl) (by kernel_rfl) (by kernel_rfl) (fun _ _ _ h => h) (Or.inl ⟨by rfl, ?_⟩) ?_
        rotate_left
        · intro w hSw
          clear hSw
          go_simp
          all_goals with_reducible rfl
        simp only [Act.put, List.setIfInBounds_toArray, List.set_cons_zero, List.set_cons_succ]
        refine wpAnyD_takeW (i := 12) (oi := { dst := some 52, op := Op.move (Operand.tmp 0), type := 54, pos := "ref.go:65", after := #[], guard := none }) (v := ?_) rfl (by kernel_rfl) (by kernel_rfl) (by kernel_rfl) (fun _ _ _ h => h) (Or.inl ⟨by rfl, ?_⟩) ?_
        rotate_left
        · intro w hSw
          clear hSw
          go_simp
          all_goals with_reducible rfl
        simp only [Act.put, List.setIfInBounds_toArray, List.set_cons_zero, List.set_cons_succ]
        refine wpAnyD_takeW (i := 13) (oi := { dst := some 53, op := Op.nilCheck (Operand.tmp 52), type := 0, pos := "ref.go:65", after := #[{ on := 12, ground := Ground.data }], guard := none }) (v := ?_) rfl (by kernel_rfl) (by kernel_rfl) (by kernel_rfl) (fun _ _ _ h => h) (Or.inl ⟨by rfl, ?_⟩) ?_
        rotate_left
        · intro w hSw
          clear hSw
          go_simp
          all_goals with_reducible rfl
        simp only [Act.put, List.setIfInBounds_toArray, List.set_cons_zero, List.set_cons_succ]
        refine wpAnyD_takeW (i := 14) (oi := { dst := some 54, op := Op.fieldAddr 107 (Operand.tmp 53) 0, type := 0, pos := "ref.go:65", after := #[{ on := 13, ground := Ground.data }], guard := none }) (v := ?_) rfl (by kernel_rfl) (by kernel_rfl) (by kernel_rfl) (fun _ _ _ h => h) (Or.inl ⟨by rfl, ?_⟩) ?_
        rotate_left
        · intro w hSw
          clear hSw
          go_simp
          all_goals with_reducible rfl
        simp only [Act.put, List.setIfInBounds_toArray, List.set_cons_zero, List.set_cons_succ]
        refine wpAnyD_take (i := 15) (oi := { dst := some 55, op := Op.load 32 (Operand.tmp 54), type := 32, pos := "ref.go:65", after := #[{ on := 14, ground := Ground.data }], guard := none }) (v := ?_) rfl (by kernel_rfl) (by kernel_rfl) (by kernel_rfl) (by kernel_rfl) (by kernel_rfl) (fun _ _ _ h => h) (Or.inl ⟨by rfl, ?_⟩) hS ?_
        rotate_left
        · intro w hSw
          (try dsimp only at hSw)
          go_simp
          all_goals with_reducible rfl
        simp only [Act.put, List.setIfInBounds_toArray, List.set_cons_zero, List.set_cons_succ]
        refine wpAnyD_takeW (i := 16) (oi := { dst := some 56, op := Op.move (Operand.tmp 1), type := 3, pos := "ref.go:65", after := #[], guard := none }) (v := ?_) rfl (by kernel_rfl) (by kernel_rfl) (by kernel_rfl) (fun _ _ _ h => h) (Or.inl ⟨by rfl, ?_⟩) ?_
        rotate_left
        · intro w hSw
          clear hSw
          go_simp
          all_goals with_reducible rfl
        simp only [Act.put, List.setIfInBounds_toArray, List.set_cons_zero, List.set_cons_succ]
        refine wpAnyD_takeW (i := 17) (oi := { dst := some 57, op := Op.binOp BinOp.sub 3 (Operand.tmp 56) (Operand.const (Value.int IntKind.i64 1)) 3, type := 3, pos := "ref.go:65", after := #[{ on := 16, ground := Ground.data }], guard := none }) (v := ?_) rfl (by kernel_rfl) (by kernel_rfl) (by kernel_rfl) (fun _ _ _ h => h) (Or.inl ⟨by rfl, ?_⟩) ?_
        rotate_left
        · intro w hSw
          clear hSw
          go_simp
          all_goals with_reducible rfl
        simp only [Act.put, List.setIfInBounds_toArray, List.set_cons_zero, List.set_cons_succ]
        refine wpAnyD_takeW (i := 18) (oi := { dst := some 58, op := Op.slice 32 (Operand.tmp 55) (some (Operand.tmp 57)) none none, type := 32, pos := "ref.go:65", after := #[{ on := 15, ground := Ground.data }, { on := 17, ground := Ground.data }], guard := none }) (v := ?_) rfl (by kernel_rfl) (by kernel_rfl) (by kernel_rfl) (fun _ _ _ h => h) (Or.inl ⟨by rfl, ?_⟩) ?_
        rotate_left
        · intro w hSw
          clear hSw
          go_simp
          all_goals with_reducible rfl
        simp only [Act.put, List.setIfInBounds_toArray, List.set_cons_zero, List.set_cons_succ]
        clear hS
        refine wpAnyD_one (i := 1) (o := { dst := some 41, op := Op.buildSlice 32 0 #[], type := 32, pos := "ref.go:65", after := #[], guard := none }) (by kernel_rfl) rfl (fun K hK => ?_)
        have b1 := hide (b0.out.alloc b0.out.size (.cells #[] 3))
        have E1 := hide (show Sl (w0.alloc (.cells #[] 3)) 3 1 (.slice (some ⟨w0.heap.size, 0, none⟩) 0 0) 0 [] from by simpa using (Sl.new w0 3 1 #[] 0 0 (Nat.le_refl _) (Nat.zero_le _) (Nat.le_refl _)))
        have V1 := hide (show ∀ g, (Value.slice (some ⟨w0.heap.size, 0, none⟩) 0 0).ownBlock = some g → w0.heap.size ≤ g from fun g hg => by
          cases hg
          exact Nat.le_refl _)
        go_simp
        refine hK _ _ (fun _ _ => HQ.out _ b1.out) ?_
        clear hK K
        try simp only [Act.put, List.setIfInBounds_toArray, List.set_cons_zero, List.set_cons_succ]
        refine wpAnyD_one (i := 9) (o := { dst := some 49, op := Op.call { callee := Callee.builtin Builtin.append, args := #[Operand.tmp 41, Operand.tmp 48], argTypes := #[32, 32] }, type := 32, pos := "ref.go:65", after := #[{ on := 1, ground := Ground.data }, { on := 8, ground := Ground.data }], guard := none }) (by kernel_rfl) rfl (fun K hK => ?_)
        refine step_append_w (by rfl) (.tmp 41) (.tmp 48) 32 rfl 3 i0 _ 1 8 Tryz.underlying32 hi hz0 hz1 hz2 rfl (.slice (some ⟨w0.heap.size, 0, none⟩) 0 0) (0) ([]) rfl E1.out _ rfl k (ints (L.take k)) (HFT.out _ b1.out) (ints_one _) (by unfold maxLen; omega) (by omega) ?_
        intro v2 w2 hs2 ho2 hv2
        rw [Nat.zero_add, List.nil_append] at hs2
        have b2 := hide (b1.out.trans (ho2.below b1.out.size fun i hi => V1.out i hi))
        have E2 := hide hs2
        have V2 := hide (show ∀ g, v2.ownBlock = some g → w0.heap.size ≤ g from fun g hg => by
          rcases hv2 with e | e
          · exact V1.out g (by rw [← e]; exact hg)
          · rw [e] at hg
            cases hg
            exact b1.out.size)
        clear hs2 ho2 hv2
        refine hK _ _ (fun _ _ => HQ.out _ b2.out) ?_
        clear hK K
        try simp only [Act.put, List.setIfInBounds_toArray, List.set_cons_zero, List.set_cons_succ]
        refine wpAnyD_one (i := 11) (o := { dst := some 51, op := Op.call { callee := Callee.builtin Builtin.append, args := #[Operand.tmp 49, Operand.tmp 50], argTypes := #[32, 32] }, type := 32, pos := "ref.go:65", after := #[{ on := 9, ground := Ground.data }, { on := 10, ground := Ground.data }, { on := 9, ground := Ground.chain }], guard := none }) (by kernel_rfl) rfl (fun K hK => ?_)
        refine step_append_w (by rfl) (.tmp 49) (.tmp 50) 32 rfl 3 i0 _ 1 8 Tryz.underlying32 hi hz0 hz1 hz2 rfl v2 (k) (ints (L.take k)) rfl E2.out _ rfl m (ints X) (HMD.out _ b2.out) (ints_one _) (by unfold maxLen; omega) (by omega) ?_
        intro v3 w3 hs3 ho3 hv3
        have b3 := hide (b2.out.trans (ho3.below b2.out.size fun i hi => V2.out i hi))
        have E3 := hide hs3
        have V3 := hide (show ∀ g, v3.ownBlock = some g → w0.heap.size ≤ g from fun g hg => by
          rcases hv3 with e | e
          · exact V2.out g (by rw [← e]; exact hg)
          · rw [e] at hg
            cases hg
            exact b2.out.size)
        clear hs3 ho3 hv3
        refine hK _ _ (fun _ _ => HQ.out _ b3.out) ?_
        clear hK K
        try simp only [Act.put, List.setIfInBounds_toArray, List.set_cons_zero, List.set_cons_succ]
        refine wpAnyD_one (i := 19) (o := { dst := some 59, op := Op.call { callee := Callee.builtin Builtin.append, args := #[Operand.tmp 51, Operand.tmp 58], argTypes := #[32, 32] }, type := 32, pos := "ref.go:65", after := #[{ on := 11, ground := Ground.data }, { on := 18, ground := Ground.data }, { on := 11, ground := Ground.chain }], guard := none }) (by kernel_rfl) rfl (fun K hK => ?_)
        refine step_append_w (by rfl) (.tmp 51) (.tmp 58) 32 rfl 3 i0 _ 1 8 Tryz.underlying32 hi hz0 hz1 hz2 rfl v3 (k + m) (ints (L.take k) ++ ints X) rfl E3.out _ rfl (n - k) (ints (L.drop k)) (HBK.out _ b3.out) (ints_one _) (by unfold maxLen; omega) (by omega) ?_
        intro v4 w4 hs4 ho4 hv4
        have b4 := hide (b3.out.trans (ho4.below b3.out.size fun i hi => V3.out i hi))
        have E4 := hide hs4
        have V4 := hide (show ∀ g, v4.ownBlock = some g → w0.heap.size ≤ g from fun g hg => by
          rcases hv4 with e | e
          · exact V3.out g (by rw [← e]; exact hg)
          · rw [e] at hg
            cases hg
            exact b3.out.size)
        clear hs4 ho4 hv4
        refine hK _ _ (fun _ _ => HQ.out _ b4.out) ?_
        clear hK K
        try simp only [Act.put, List.setIfInBounds_toArray, List.set_cons_zero, List.set_cons_succ]
        have EF := hide (HFIN.out _ _ E4.out)
        obtain ⟨Ax, cx, hvx, _⟩ := id EF.out.form
        subst hvx
        refine wpAnyD_takeW (i := 20) (oi := { dst := some 60, op := Op.nilCheck (Operand.tmp 40), type := 0, pos := "ref.go:65", after := #[{ on := 0, ground := Ground.data }, { on := 0, ground := Ground.phase }, { on := 1, ground := Ground.phase }, { on := 2, ground := Ground.phase }, { on := 3, ground := Ground.phase }, { on := 4, ground := Ground.phase }, { on := 5, ground := Ground.phase }, { on := 6, ground := Ground.phase }, { on := 7, ground := Ground.phase }, { on := 8, ground := Ground.phase }, { on := 9, ground := Ground.phase }, { on := 10, ground := Ground.phase }, { on := 11, ground := Ground.phase }, { on := 12, ground := Ground.phase }, { on := 13, ground := Ground.phase }, { on := 14, ground := Ground.phase }, { on := 15, ground := Ground.phase }, { on := 16, ground := Ground.phase }, { on := 17, ground := Ground.phase }, { on := 18, ground := Ground.phase }, { on := 19, ground := Ground.phase }], guard := none }) (v := ?_) rfl (by kernel_rfl) (by kernel_rfl) (by kernel_rfl) (fun _ _ _ h => h) (Or.inl ⟨by rfl, ?_⟩) ?_
        rotate_left
        · intro w hSw
          clear hSw
          go_simp
          all_goals with_reducible rfl
        simp only [Act.put, List.setIfInBounds_toArray, List.set_cons_zero, List.set_cons_succ]
        refine wpAnyD_takeW (i := 21) (oi := { dst := some 61, op := Op.fieldAddr 107 (Operand.tmp 60) 0, type := 0, pos := "ref.go:65", after := #[{ on := 20, ground := Ground.data }, { on := 0, ground := Ground.phase }, { on := 1, ground := Ground.phase }, { on := 2, ground := Ground.phase }, { on := 3, ground := Ground.phase }, { on := 4, ground := Ground.phase }, { on := 5, ground := Ground.phase }, { on := 6, ground := Ground.phase }, { on := 7, ground := Ground.phase }, { on := 8, ground := Ground.phase }, { on := 9, ground := Ground.phase }, { on := 10, ground := Ground.phase }, { on := 11, ground := Ground.phase }, { on := 12, ground := Ground.phase }, { on := 13, ground := Ground.phase }, { on := 14, ground := Ground.phase }, { on := 15, ground := Ground.phase }, { on := 16, ground := Ground.phase }, { on := 17, ground := Ground.phase }, { on := 18, ground := Ground.phase }, { on := 19, ground := Ground.phase }], guard := none }) (v := ?_) rfl (by kernel_rfl) (by kernel_rfl) (by kernel_rfl) (fun _ _ _ h => h) (Or.inl ⟨by rfl, ?_⟩) ?_
        rotate_left
        · intro w hSw
          clear hSw
          go_simp
          all_goals with_reducible rfl
        simp only [Act.put, List.setIfInBounds_toArray, List.set_cons_zero, List.set_cons_succ]
        have fz : w4.frozen? ⟨rb, 0, none⟩ = false := (H5.out.below b4.out).blk.frozen 0
        have hS := HQ.out _ b4.out
        refine wpAnyD_one (i := 22) (o := { dst := none, op := Op.store 32 (Operand.tmp 61) (Operand.tmp 59), type := 0, pos := "ref.go:65", after := #[{ on := 21, ground := Ground.data }, { on := 19, ground := Ground.data }, { on := 19, ground := Ground.chain }, { on := 0, ground := Ground.phase }, { on := 1, ground := Ground.phase }, { on := 2, ground := Ground.phase }, { on := 3, ground := Ground.phase }, { on := 4, ground := Ground.phase }, { on := 5, ground := Ground.phase }, { on := 6, ground := Ground.phase }, { on := 7, ground := Ground.phase }, { on := 8, ground := Ground.phase }, { on := 9, ground := Ground.phase }, { on := 10, ground := Ground.phase }, { on := 11, ground := Ground.phase }, { on := 12, ground := Ground.phase }, { on := 13, ground := Ground.phase }, { on := 14, ground := Ground.phase }, { on := 15, ground := Ground.phase }, { on := 16, ground := Ground.phase }, { on := 17, ground := Ground.phase }, { on := 18, ground := Ground.phase }, { on := 19, ground := Ground.phase }], guard := none }) (by kernel_rfl) rfl (fun K hK => ?_)
        go_simp
        refine hK _ _ (fun h => by cases h) ?_
        clear hK K
        try simp only [Act.put, List.setIfInBounds_toArray, List.set_cons_zero, List.set_cons_succ]
        refine wpAnyD_done (by kernel_rfl) ?_ _
        go_wp2
        all_goals go_ret
        all_goals exact ⟨by rw [HERR.out]; rfl, _, H5.out.setn HNZ.out b4.out EF.out V4.out⟩

end
end Go.Proofs.YtnbhejbpofjamaaGreatDoor
namespace Go.Proofs.YtnbhejbpofjamaaGreatDoor
open Go.RowKit

theorem place16_any (a : Int) (w : World) (h1 : 1 ≤ a) (h2 : a ≤ 1099511627776) : Calls Tryz.prog 158 #[.int .i64 a] w fun e w' => e = .returned (.bool true) ∧ w = w' := by
  have z1 : decide (1 ≤ a) = true := by simpa using h1
  have z2 : decide (a ≤ 1099511627776) = true := by simpa using h2
  go_enter Tryz.func158, Tryz.ntmps158
  go_wp2
  go_ret
  exact ⟨rfl, rfl⟩
theorem place18_any (a : Int) (w : World) (h1 : 1 ≤ a) (h2 : a ≤ 1099511627776) : Calls Tryz.prog 159 #[.int .i64 a] w fun e w' => e = .returned (.bool true) ∧ w = w' := by
  have z1 : decide (1 ≤ a) = true := by simpa using h1
  have z2 : decide (a ≤ 1099511627776) = true := by simpa using h2
  go_enter Tryz.func159, Tryz.ntmps159
  go_wp2
  go_ret
  exact ⟨rfl, rfl⟩
/-- A block that turns by what is made. -/
def Turn (w : World) (g : Nat) (t : TypeId) (f : Value → Array Value) (e : Ending) (w' : World) : Prop := e = .returned (.int .i64 0) ∧ ∃ A c, Only (· = g) w w' ∧ Blk w' g t (f (.slice A 0 c))
theorem r16_ins_info : (Tryz.prog.info? 227).map (fun i => (i.zero, i.size, i.bytes)) = some (some (.agg #[.int .i64 0, .int .i64 0, .bool false]), 3, 24) := by kernel_rfl
set_option maxRecDepth 100000 in
set_option maxHeartbeats 4000000 in
theorem r16_ins (mb : Nat) (A : Option Addr) (c : Nat) (n0 : Int) (w : World) (h : Blk w mb 216 #[.slice A 0 c, .int .i64 n0]) (at' n : Nat) (ha : 1 ≤ at') (ha2 : at' ≤ 1000000) (hn : n ≤ 65536) (ahead : Bool) :
    Calls Tryz.prog 118 #[.pointer (some ⟨mb, 0, none⟩), .int .i64 (at' : Int), .int .i64 (n : Int), .bool ahead] w (Turn w mb 216 fun v => #[v, .int .i64 n0]) := by
  obtain ⟨i0, hi, hz0, hz1, hz2⟩ := info_parts r16_ins_info
  have HP := hide (place16_any (at' : Int) w (by omega) (by omega))
  have he := Sl.new w 227 3 #[] 0 0 (Nat.le_refl _) (by simp [maxLen]) (by simp)
  have he2 : Sl (w.alloc (.cells #[] 227)) 227 3 (.slice (some ⟨w.heap.size, 0, none⟩) 0 0) 0 [] := by simpa using he
  have hB1 : Below w.heap.size w (w.alloc (.cells #[] 227)) := (Below.refl _ _).alloc (Nat.le_refl _) _
  have HBK := hide (fun (y : World) (hb : Below w.heap.size w y) => h.below hb h.lt)
  have c0 : (w.alloc (.cells #[] 227)).cell? ⟨mb, 0, none⟩ = some (.slice A 0 c) := ((HBK.out _ hB1).cell 0).trans rfl
  have hrd : Rd (w.alloc (.cells #[] 227)) (.slice A 0 c) 3 0 [] := ⟨A, c, rfl, rfl, fun h => by omega⟩
  have z1 : decide ((n : Int) < 0) = false := by simp
  have z2 : decide ((65536 : Int) < (n : Int)) = false := by simp; omega
  have z3 : decide (65536 < n) = false := by simp; omega
  clear h ha ha2 hn he
  go_enter Tryz.func118, Tryz.ntmps118
  go_wp2_with fail
  refine (Calls.mono HP.out) ?_
  rintro e w1 ⟨rfl, rfl⟩
  go_wp2_with (at_builtin; go_loud (refine wpList_append_sl rfl (.tmp 22) (.tmp 26) 214 rfl 227 i0 _ 3 24 Tryz.underlying214 hi hz0 hz1 hz2 rfl _ 0 [] rfl he2 _ rfl 0 [] hrd (fun u hu => by cases hu) ?b1 ?b2 ?_))
  case b1 => unfold maxLen; omega
  case b2 => omega
  intro v' w' hs ho hv
  obtain ⟨A', c', rfl, _, _⟩ := hs.form
  have hB : Below w.heap.size w w' := hB1.trans (ho.below (B := w.heap.size) (by simp) fun i hi => by simp [Value.ownBlock] at hi; omega)
  have HB := hide hB
  have hb := HBK.out w' hB
  have f0 := hb.frozen 0
  have k0 : w'.cell? ⟨mb, 0, none⟩ = some (.slice A 0 c) := (hb.cell 0).trans rfl
  have HF := hide (hb.set_ 0 (.slice A' 0 c'))
  clear hs ho hv hB hb he2 hB1 c0 hrd hi hz0 hz1 hz2
  go_wp2_with fail
  go_loopw [10] (fun iv wr => iv = .int .i64 0 ∧ wr = w') (fun _ _ => 0)
  case atStart => exact ⟨rfl, rfl⟩
  case round =>
    obtain ⟨rfl, rfl⟩ := hrel
    go_wp2_with fail
    go_ret
    exact ⟨rfl, _, _, (Only.of_below (F := (· = mb)) HB.out).setCell (p := ⟨mb, 0, none⟩) (.inl rfl) _, HF.out⟩
theorem r18_ins_info : (Tryz.prog.info? 187).map (fun i => (i.zero, i.size, i.bytes)) = some (some (.agg #[.int .i64 0, .int .i64 0, .int .i64 0, .bool false, .bool false, .slice none 0 0]), 6, 56) := by kernel_rfl
set_option maxRecDepth 100000 in
set_option maxHeartbeats 4000000 in
theorem r18_ins (ob : Nat) (A : Option Addr) (c : Nat) (n0 p q : Int) (w : World) (h : Blk w ob 222 #[.slice A 0 c, .int .i64 n0, .int .i64 p, .int .i64 q]) (at' n : Nat) (ha : 1 ≤ at') (ha2 : at' ≤ 1000000) (hn : n ≤ 65536) :
    Calls Tryz.prog 120 #[.pointer (some ⟨ob, 0, none⟩), .int .i64 (at' : Int), .int .i64 (n : Int)] w (Turn w ob 222 fun v => #[v, .int .i64 n0, .int .i64 p, .int .i64 q]) := by
  obtain ⟨i0, hi, hz0, hz1, hz2⟩ := info_parts r18_ins_info
  have HP := hide (place18_any (at' : Int) w (by omega) (by omega))
  have he := Sl.new w 187 6 #[] 0 0 (Nat.le_refl _) (by simp [maxLen]) (by simp)
  have he2 : Sl (w.alloc (.cells #[] 187)) 187 6 (.slice (some ⟨w.heap.size, 0, none⟩) 0 0) 0 [] := by simpa using he
  have hB1 : Below w.heap.size w (w.alloc (.cells #[] 187)) := (Below.refl _ _).alloc (Nat.le_refl _) _
  have HBK := hide (fun (y : World) (hb : Below w.heap.size w y) => h.below hb h.lt)
  have c0 : (w.alloc (.cells #[] 187)).cell? ⟨ob, 0, none⟩ = some (.slice A 0 c) := ((HBK.out _ hB1).cell 0).trans rfl
  have hrd : Rd (w.alloc (.cells #[] 187)) (.slice A 0 c) 6 0 [] := ⟨A, c, rfl, rfl, fun h => by omega⟩
  have z1 : decide ((n : Int) < 0) = false := by simp
  have z2 : decide ((65536 : Int) < (n : Int)) = false := by simp; omega
  have z3 : decide (65536 < n) = false := by simp; omega
  clear h ha ha2 hn he
  go_enter Tryz.func120, Tryz.ntmps120
  go_wp2_with fail
  refine (Calls.mono HP.out) ?_
  rintro e w1 ⟨rfl, rfl⟩
  go_wp2_with (at_builtin; go_loud (refine wpList_append_sl rfl (.tmp 22) (.tmp 26) 220 rfl 187 i0 _ 6 56 Tryz.underlying220 hi hz0 hz1 hz2 rfl _ 0 [] rfl he2 _ rfl 0 [] hrd (fun u hu => by cases hu) ?b1 ?b2 ?_))
  case b1 => unfold maxLen; omega
  case b2 => omega
  intro v' w' hs ho hv
  obtain ⟨A', c', rfl, _, _⟩ := hs.form
  have hB : Below w.heap.size w w' := hB1.trans (ho.below (B := w.heap.size) (by simp) fun i hi => by simp [Value.ownBlock] at hi; omega)
  have HB := hide hB
  have hb := HBK.out w' hB
  have f0 := hb.frozen 0
  have k0 : w'.cell? ⟨ob, 0, none⟩ = some (.slice A 0 c) := (hb.cell 0).trans rfl
  have HF := hide (hb.set_ 0 (.slice A' 0 c'))
  clear hs ho hv hB hb he2 hB1 c0 hrd hi hz0 hz1 hz2
  go_wp2_with fail
  go_loopw [8] (fun iv wr => iv = .int .i64 0 ∧ wr = w') (fun _ _ => 0)
  case atStart => exact ⟨rfl, rfl⟩
  case round =>
    obtain ⟨rfl, rfl⟩ := hrel
    go_wp2_with fail
    go_ret
    exact ⟨rfl, _, _, (Only.of_below (F := (· = ob)) HB.out).setCell (p := ⟨ob, 0, none⟩) (.inl rfl) _, HF.out⟩
set_option maxRecDepth 100000 in
set_option maxHeartbeats 4000000 in
theorem r17_ins (pb : Nat) (w : World) (h : w.cell? ⟨pb, 0, none⟩ = some (.slice none 0 0)) (at' n : Nat) (ha : 1 ≤ at') (ha2 : at' ≤ 65537) (hn : n ≤ 65536) :
    Calls Tryz.prog 119 #[.pointer (some ⟨pb, 0, none⟩), .int .i64 (at' : Int), .int .i64 (n : Int)] w fun e w' => e = .returned (.int .i64 0) ∧ w = w' := by
  have z1 : decide ((n : Int) < 0) = false := by simp
  have z2 : decide ((65536 : Int) < (n : Int)) = false := by simp; omega
  have z3 : decide (65536 < n) = false := by simp; omega
  have y1 : decide ((at' : Int) < 1) = false := by simp; omega
  have y2 : decide ((65537 : Int) < (at' : Int)) = false := by simp; omega
  have y3 : decide (65537 < at') = false := by simp; omega
  have y4 : decide ((at' : Int) ≤ 0) = false := by simp; omega
  have y5 : decide ((0 : Int) < (at' : Int)) = true := by simp; omega
  have y6 : decide (0 < at') = true := by simp; omega
  have y7 : ¬ at' = 0 := by omega
  have y8 : ¬ at' < 1 := by omega
  clear ha ha2 hn
  go_enter Tryz.func119, Tryz.ntmps119
  go_wp2_with fail
  go_loopw [7] (fun iv wr => iv = .int .i64 (at' : Int) ∧ wr = w) (fun _ _ => 0)
  case atStart => exact ⟨rfl, rfl⟩
  case round =>
    obtain ⟨rfl, rfl⟩ := hrel
    go_wp2_with fail
    go_ret
    exact ⟨rfl, rfl⟩
set_option maxRecDepth 100000 in
set_option maxHeartbeats 4000000 in
theorem r17_list (pb : Nat) (w : World) (h : w.cell? ⟨pb, 0, none⟩ = some (.slice none 0 0)) (a : Int) : Calls Tryz.prog 183 #[.pointer (some ⟨pb, 0, none⟩), .int .i64 a] w fun e w' => e = .returned (.slice none 0 0) ∧ w = w' := by
  by_cases h1 : a < 1
  · have z1 : decide (a < 1) = true := by simpa using h1
    clear h1
    go_enter Tryz.func183, Tryz.ntmps183
    go_wp2
    go_ret
    exact ⟨rfl, rfl⟩
  · have z1 : decide (a < 1) = false := by simpa using h1
    have z2 : decide (0 < a) = true := by simp; omega
    clear h1
    go_enter Tryz.func183, Tryz.ntmps183
    go_wp2
    go_ret
    exact ⟨rfl, rfl⟩
set_option maxRecDepth 100000 in
set_option maxHeartbeats 4000000 in
theorem r17_get (pb : Nat) (w : World) (h : w.cell? ⟨pb, 0, none⟩ = some (.slice none 0 0)) (a nm : Int) : Calls Tryz.prog 154 #[.pointer (some ⟨pb, 0, none⟩), .int .i64 a, .int .i64 nm] w fun e w' => e = .returned (.tuple #[.agg #[.int .i64 0, .int .i64 0], .bool false]) ∧ Below w.heap.size w w' := by
  have hB := (Below.refl _ w).alloc (Nat.le_refl _) (.cells #[.int .i64 0, .int .i64 0] 159)
  have HL := hide (r17_list pb (w.alloc (.cells #[.int .i64 0, .int .i64 0] 159)) (cell_keep h hB) a)
  have hn2 := Blk.new w 159 #[.int .i64 0, .int .i64 0]
  have HB2 := hide hB
  have HN2 := hide hn2
  obtain ⟨g, hg⟩ : ∃ g, g = w.heap.size := ⟨_, rfl⟩
  have HG := hide (show w.heap.size ≤ g by omega)
  clear h hB hn2
  go_enter Tryz.func154, Tryz.ntmps154
  go_wp2_with fail
  refine (Calls.mono HL.out) ?_
  rintro e w1 ⟨rfl, rfl⟩
  obtain ⟨w1, hw1⟩ : ∃ q : World, q = w.alloc (.cells #[.int .i64 0, .int .i64 0] 159) := ⟨_, rfl⟩
  rw [← hw1] at HN2 HB2 ⊢
  rw [← hg] at HN2 ⊢
  have k0 : w1.cell? ⟨g, 0, none⟩ = some (.int .i64 0) := (HN2.out.cell 0).trans rfl
  have k1 : w1.cell? ⟨g, 1, none⟩ = some (.int .i64 0) := (HN2.out.cell 1).trans rfl
  have f0 := HN2.out.frozen 0
  have f1 := HN2.out.frozen 1
  have HLD := hide (run_loadVar_row (P := Tryz.prog) ((w1.setCell ⟨g, 0, none⟩ (.int .i64 0)).setCell ⟨g, 1, none⟩ (.int .i64 0)) g 159 159 #[.int .i64 0, .int .i64 0] (0, 0) _ ((HN2.out.set_ 0 (.int .i64 0)).set_ 1 (.int .i64 0)) Tryz.underlying159 rfl (by kernel_rfl))
  clear hw1 hg HL
  go_wp2_with fail
  go_loopw [9] (fun iv wr => iv = .int .i64 0 ∧ wr = w1) (fun _ _ => 0)
  case atStart => exact ⟨rfl, rfl⟩
  case round =>
    obtain ⟨rfl, rfl⟩ := hrel
    go_wp2_with fail
    refine bodyPost_ret (results_row2 rfl rfl HLD.out rfl) rfl ?_
    exact ⟨rfl, (HB2.out.setCell (p := ⟨g, 0, none⟩) HG.out _).setCell (p := ⟨g, 1, none⟩) HG.out _⟩
end Go.Proofs.YtnbhejbpofjamaaGreatDoor
namespace Go.Proofs.YtnbhejbpofjamaaGreatDoor
open Go.RowKit

section
variable {W w w' : World} {b : Lb} {R : Heap}
theorem rcall_clean (h : RefAt W w b lg0 R) : Calls Tryz.prog 157 #[.pointer (some ⟨b.lb, 0, none⟩), .agg #[.int .i64 6, .int .i64 0, .int .i64 0, .int .i64 0, .int .i64 0, .string ⟨#[]⟩, .int .i64 0, .int .i64 0, .bool false]] w fun e w' => e = .returned (.int .i64 0) ∧ ∃ b', b'.lb = b.lb ∧ RefAt W w' b' lg1 R := by
  have h1 := radd_push h cClean (by decide) (by decide) chk_clean rfl ⟨by decide, by decide, by decide⟩
  unfold RAddRes at h1
  rw [chk_clean, add_0] at h1
  exact h1
theorem rcall_point (h : RefAt W w b lg1 R) (a : Nat) (ha : 1 ≤ a) (ha2 : a ≤ 1000000) : Calls Tryz.prog 157 #[.pointer (some ⟨b.lb, 0, none⟩), .agg #[.int .i64 4, .int .i64 (a : Int), .int .i64 0, .int .i64 0, .int .i64 0, .string ⟨#[]⟩, .int .i64 0, .int .i64 0, .bool false]] w fun e w' => e = .returned (.int .i64 0) ∧ ∃ b', b'.lb = b.lb ∧ RefAt W w' b' (lg2 a) R := by
  have h1 := radd_push h (cPoint a) (by show 0 ≤ _; omega) (by decide) (chk_point ha ha2) rfl ⟨by decide, by decide, by decide⟩
  unfold RAddRes at h1
  rw [chk_point ha ha2, add_1 ha ha2] at h1
  exact h1
theorem rcall_ins {a : Nat} (h : RefAt W w b (lg2 a) R) (t : Nat) (ha : 1 ≤ a) (ha2 : a ≤ t) (ha3 : t ≤ 1000000) : Calls Tryz.prog 157 #[.pointer (some ⟨b.lb, 0, none⟩), .agg #[.int .i64 1, .int .i64 (a : Int), .int .i64 (t : Int), .int .i64 0, .int .i64 0, .string ⟨#[]⟩, .int .i64 0, .int .i64 0, .bool false]] w fun e w' => e = .returned (.int .i64 0) ∧ ∃ b', b'.lb = b.lb ∧ RefAt W w' b' (lg3 a t) R := by
  have h1 := radd_push h (cIns a t) (by show 0 ≤ _; omega) (by show 2 ≤ _; omega) (chk_ins ha ha2 ha3) rfl ⟨by show (0 : Int) ≤ 2; omega, by show (2 : Int) ≤ 2; omega, by show (2 : Int) ≤ _; omega⟩
  unfold RAddRes at h1
  rw [chk_ins ha ha2 ha3, add_2 ha ha2 ha3] at h1
  exact h1
theorem rcall_more {a : Nat} (t : Nat) (h : RefAt W w b (lg3 a t) R) (t2 : Nat) (ha : 1 ≤ t) (ha2 : t ≤ t2) (ha3 : t2 ≤ 1000000) : Calls Tryz.prog 157 #[.pointer (some ⟨b.lb, 0, none⟩), .agg #[.int .i64 1, .int .i64 (t : Int), .int .i64 (t2 : Int), .int .i64 0, .int .i64 0, .string ⟨#[]⟩, .int .i64 0, .int .i64 0, .bool false]] w fun e w' => e = .returned (.int .i64 0) ∧ ∃ b', b'.lb = b.lb ∧ RefAt W w' b' (lg3 a t2) R := by
  have h1 := radd_join h (cIns t t2) (by show 0 ≤ _; omega) (by show 3 ≤ _; omega) (chk_ins ha ha2 ha3) (joins_3 a t t2)
  unfold RAddRes at h1
  rw [chk_ins ha ha2 ha3, add_3 ha ha2 ha3] at h1
  exact h1
theorem RefAt.setRest {s : Lg} {g : Nat} {T : TypeId} {cs : Array Value} (h : RefAt W w b s ((g, .cells T cs) :: R)) (i : Nat) (u : Value) : RefAt W (w.setCell ⟨g, i, none⟩ u) b s ((g, .cells T (cs.setIfInBounds i u)) :: R) := by
  have h1 := (h.own.perm List.perm_middle).setCell i u
  exact ⟨h1.perm List.perm_middle.symm, h.ok⟩
theorem RefAt.restBlk {s : Lg} {g : Nat} {T : TypeId} {cs : Array Value} (h : RefAt W w b s ((g, .cells T cs) :: R)) : Blk w g T cs := h.own.blk (List.mem_append_right _ (List.mem_cons_self ..))
theorem RefAt.restBlk2 {s : Lg} {g : Nat} {T : TypeId} {cs : Array Value} {x : Nat × Ast} (h : RefAt W w b s (x :: (g, .cells T cs) :: R)) : Blk w g T cs := h.own.blk (List.mem_append_right _ (List.mem_cons_of_mem _ (List.mem_cons_self ..)))
theorem RefAt.box2 {s : Lg} {x : Nat × Ast} (h : RefAt W w b s (x :: R)) (t : TypeId) (cs : Array Value) : RefAt W (w.alloc (.cells cs t)) b s (x :: (w.heap.size, .cells t cs) :: R) := (h.box t cs).perm (List.Perm.swap _ _ _)
end
/-! ### The buffer -/
/-- The cells of a buffer of the reference: point and end, the count of changes, the name of the property that locks, where its parts lie. -/
def ybD (pt pm tick : Nat) (r : Int) (tb mb pb ob lb : Nat) : Array Value := #[.pointer (some ⟨tb, 0, none⟩), .pointer (some ⟨mb, 0, none⟩), .pointer (some ⟨pb, 0, none⟩), .pointer (some ⟨ob, 0, none⟩), .pointer (some ⟨lb, 0, none⟩), .int .i64 (pt : Int), .int .i64 1, .int .i64 (pm : Int), .int .i64 0, .bool false, .int .i64 r, .bool false, .bool false, .bool false, .int .i64 (tick : Int), .int .i64 0, .slice none 0 0, .int .i64 0]
section
variable {W w w' : World} {b : Lb} {R : Heap} {bp pt pm tick tb mb pb ob : Nat} {r : Int}
theorem yb_log {lb : Nat} (h : Blk w bp 61 (ybD pt pm tick r tb mb pb ob lb)) : w.cell? ⟨bp, 4, none⟩ = some (.pointer (some ⟨lb, 0, none⟩)) ∧ w.cell? ⟨bp, 5, none⟩ = some (.int .i64 (pt : Int)) ∧ w.cell? ⟨bp, 13, none⟩ = some (.bool false) ∧ w.cell? ⟨bp, 14, none⟩ = some (.int .i64 (tick : Int)) ∧ w.cell? ⟨bp, 15, none⟩ = some (.int .i64 0) :=
  ⟨(h.cell 4).trans rfl, (h.cell 5).trans rfl, (h.cell 13).trans rfl, (h.cell 14).trans rfl, (h.cell 15).trans rfl⟩
def RNoted (W : World) (b : Lb) (s : Lg) (bp : Nat) (cs : Array Value) (R : Heap) (e : Ending) (w' : World) : Prop := e = .returned (.tuple #[]) ∧ ∃ b', b'.lb = b.lb ∧ RefAt W w' b' s ((bp, .cells 61 cs) :: R)
set_option maxRecDepth 100000 in
set_option maxHeartbeats 4000000 in
theorem rlog_more {a : Nat} (t1 : Nat) (h : RefAt W w b (lg3 a t1) ((bp, .cells 61 (ybD pt pm tick r tb mb pb ob b.lb)) :: R)) (t2 : Nat) (hp : 1 ≤ t1) (ht : t1 ≤ t2) (ht2 : t2 ≤ 1000000) :
    Calls Tryz.prog 122 #[.pointer (some ⟨bp, 0, none⟩), .agg #[.int .i64 1, .int .i64 (t1 : Int), .int .i64 (t2 : Int), .int .i64 0, .int .i64 0, .string ⟨#[]⟩, .int .i64 0, .int .i64 0, .bool false]] w (RNoted W b (lg3 a t2) bp (ybD pt pm tick r tb mb pb ob b.lb) R) := by
  have h1 := h.box2 161 #[.int .i64 1, .int .i64 (t1 : Int), .int .i64 (t2 : Int), .int .i64 0, .int .i64 0, .string ⟨#[]⟩, .int .i64 0, .int .i64 0, .bool false]
  obtain ⟨k0, k1, k2, k3, k4, k5, k6, k7, k8⟩ := chg_nine h1.restBlk2
  have HC := hide (rcall_more t1 h1.drew t2 hp ht ht2)
  obtain ⟨c4, c5, c13, c14, c15⟩ := yb_log h1.restBlk
  clear h h1 hp ht ht2
  go_enter Tryz.func122, Tryz.ntmps122
  go_upto_region 2 with fail
  go_region_with (go_at_call 157; (with_reducible refine Calls.mono HC.out ?_); rintro e w2 ⟨rfl, b', hb', h2⟩; have H2 := hide h2; have HB' := hide hb'; clear h2 hb')
  all_goals
    refine bodyPost_end (results_none rfl _ _ _) rfl ?_
    exact ⟨rfl, b', HB'.out, H2.out.sub (List.Sublist.cons_cons _ (List.sublist_cons_self _ _))⟩
set_option maxRecDepth 100000 in
set_option maxHeartbeats 4000000 in
theorem rlog_ins {a : Nat} (h : RefAt W w b (lg2 a) ((bp, .cells 61 (ybD pt pm tick r tb mb pb ob b.lb)) :: R)) (t2 : Nat) (hp : 1 ≤ a) (ht : a ≤ t2) (ht2 : t2 ≤ 1000000) :
    Calls Tryz.prog 122 #[.pointer (some ⟨bp, 0, none⟩), .agg #[.int .i64 1, .int .i64 (a : Int), .int .i64 (t2 : Int), .int .i64 0, .int .i64 0, .string ⟨#[]⟩, .int .i64 0, .int .i64 0, .bool false]] w (RNoted W b (lg3 a t2) bp (ybD pt pm tick r tb mb pb ob b.lb) R) := by
  have h1 := h.box2 161 #[.int .i64 1, .int .i64 (a : Int), .int .i64 (t2 : Int), .int .i64 0, .int .i64 0, .string ⟨#[]⟩, .int .i64 0, .int .i64 0, .bool false]
  obtain ⟨k0, k1, k2, k3, k4, k5, k6, k7, k8⟩ := chg_nine h1.restBlk2
  have HC := hide (rcall_ins h1.drew t2 hp ht ht2)
  obtain ⟨c4, c5, c13, c14, c15⟩ := yb_log h1.restBlk
  clear h h1 hp ht ht2
  go_enter Tryz.func122, Tryz.ntmps122
  go_upto_region 2 with fail
  go_region_with (go_at_call 157; (with_reducible refine Calls.mono HC.out ?_); rintro e w2 ⟨rfl, b', hb', h2⟩; have H2 := hide h2; have HB' := hide hb'; clear h2 hb')
  all_goals
    refine bodyPost_end (results_none rfl _ _ _) rfl ?_
    exact ⟨rfl, b', HB'.out, H2.out.sub (List.Sublist.cons_cons _ (List.sublist_cons_self _ _))⟩
theorem rmod_any (w : World) (h14 : w.cell? ⟨bp, 14, none⟩ = some (.int .i64 0)) (h15 : w.cell? ⟨bp, 15, none⟩ = some (.int .i64 0)) : Calls Tryz.prog 156 #[.pointer (some ⟨bp, 0, none⟩)] w fun e w' => e = .returned (.bool false) ∧ ∃ q, w' = w.drewN q := by
  go_enter Tryz.func156, Tryz.ntmps156
  go_upto_region 1 with fail
  go_quiet (fail)
  go_wp2_with fail
  go_ret
  exact ⟨rfl, nq, rfl⟩
set_option maxRecDepth 100000 in
set_option maxHeartbeats 4000000 in
theorem rbegin_fresh (h : RefAt W w b lg0 ((bp, .cells 61 (ybD pt pm 0 r tb mb pb ob b.lb)) :: R)) (hp : 1 ≤ pt) (hp2 : pt ≤ 1000000) :
    Calls Tryz.prog 116 #[.pointer (some ⟨bp, 0, none⟩)] w (RNoted W b (lg2 pt) bp (ybD pt pm 0 r tb mb pb ob b.lb) R) := by
  obtain ⟨c4, c5, c13, c14, c15⟩ := yb_log h.restBlk
  have e1 : w.cell? ⟨b.lb, 1, none⟩ = some b.ov := h.c1
  have hov := h.slO
  obtain ⟨A, c, hv, _, _⟩ := hov.form
  rw [hv] at e1
  rw [show lg0.O.length = 0 from rfl] at e1
  have HM := hide (rmod_any w c14 c15)
  have H := hide h
  have HP := hide hp
  have HP2 := hide hp2
  clear h hp hp2 hov hv c14 c15
  go_enter Tryz.func116, Tryz.ntmps116
  go_wp2_with fail
  refine (Calls.mono HM.out) ?_
  rintro e w2 ⟨rfl, q, rfl⟩
  have H2 := hide (H.out.drewN q)
  obtain ⟨w2, hw2⟩ : ∃ y : World, y = w.drewN q := ⟨_, rfl⟩
  rw [← hw2] at H2 ⊢
  obtain ⟨d4, d5, _, _, _⟩ := yb_log H2.out.restBlk
  clear hw2 c4 c5 c13 e1
  go_wp2_with fail
  refine (Calls.mono (rcall_clean H2.out)) ?_
  rintro e w5 ⟨rfl, b5, hb5, h5⟩
  obtain ⟨f4, f5, _, _, _⟩ := yb_log h5.restBlk
  have HC6 := rcall_point h5.drew pt HP.out HP2.out
  rw [hb5] at HC6
  have HC6 := hide HC6
  have HB5 := hide hb5
  clear h5 hb5 d4 d5
  go_upto_region 3 with fail
  go_region_with (go_at_call 157; (with_reducible refine Calls.mono HC6.out ?_); rintro e w6 ⟨rfl, b6, hb6, h6⟩; have H6 := hide h6; have HB6 := hide hb6; clear h6 hb6)
  all_goals
    refine bodyPost_end (results_none rfl _ _ _) rfl ?_
    exact ⟨rfl, b6, HB6.out, H6.out⟩
set_option maxRecDepth 100000 in
set_option maxHeartbeats 4000000 in
theorem rbegin_more {a t1 : Nat} (h : RefAt W w b (lg3 a t1) ((bp, .cells 61 (ybD pt pm tick r tb mb pb ob b.lb)) :: R)) :
    Calls Tryz.prog 116 #[.pointer (some ⟨bp, 0, none⟩)] w fun e w' => e = .returned (.tuple #[]) ∧ ∃ q, w' = w.drewN q := by
  obtain ⟨c4, c5, c13, c14, c15⟩ := yb_log h.restBlk
  have e1 : w.cell? ⟨b.lb, 1, none⟩ = some b.ov := h.c1
  have hov := h.slO
  obtain ⟨A, c, hv, _, _⟩ := hov.form
  rw [hv] at e1
  rw [show (lg3 a t1).O.length = 3 from rfl] at e1
  clear h hov hv
  go_enter Tryz.func116, Tryz.ntmps116
  go_wp2_with fail
  refine bodyPost_ret (results_none rfl _ _ _) rfl ?_
  exact ⟨rfl, 0, rfl⟩
set_option maxRecDepth 100000 in
set_option maxHeartbeats 4000000 in
theorem rlocked_any {lb : Nat} (w : World) (h : Blk w bp 61 (ybD pt pm tick r tb mb pb ob lb)) (hp : w.cell? ⟨pb, 0, none⟩ = some (.slice none 0 0)) (a : Int) : Calls Tryz.prog 114 #[.pointer (some ⟨bp, 0, none⟩), .int .i64 a] w fun e w' => e = .returned (.bool false) ∧ Below w.heap.size w w' := by
  have c11 : w.cell? ⟨bp, 2, none⟩ = some (.pointer (some ⟨pb, 0, none⟩)) := (h.cell 2).trans rfl
  have c16 : w.cell? ⟨bp, 10, none⟩ = some (.int .i64 r) := (h.cell 10).trans rfl
  have HG := hide (fun w' (hb : Below w.heap.size w w') => r17_get pb w' (cell_keep hp hb) a r)
  have HC := hide (fun w' (hb : Below w.heap.size w w') => (show w'.cell? ⟨bp, 2, none⟩ = some (.pointer (some ⟨pb, 0, none⟩)) ∧ w'.cell? ⟨bp, 10, none⟩ = some (.int .i64 r) from ⟨(hb.cell h.lt).trans c11, (hb.cell h.lt).trans c16⟩))
  clear h hp
  go_enter Tryz.func114, Tryz.ntmps114
  go_upto_region 1 with fail
  have HW := hide (fun (w' : World) (b1 : Below (w.alloc (.cells #[.int .i64 0, .int .i64 0] 159)).drew.heap.size (w.alloc (.cells #[.int .i64 0, .int .i64 0] 159)).drew w') => (show (w'.cell? ⟨w.heap.size, 0, none⟩ = some (.int .i64 0) ∧ w'.cell? ⟨w.heap.size, 1, none⟩ = some (.int .i64 0) ∧ w'.frozen? ⟨w.heap.size, 0, none⟩ = false ∧ w'.frozen? ⟨w.heap.size, 1, none⟩ = false) ∧ Below w.heap.size w w' from by
    have hn : Blk w' w.heap.size 159 #[.int .i64 0, .int .i64 0] := (Blk.new w 159 #[.int .i64 0, .int .i64 0]).drew.below b1 (by simp)
    exact ⟨⟨(hn.cell 0).trans rfl, (hn.cell 1).trans rfl, hn.frozen 0, hn.frozen 1⟩, ((Below.refl _ w).alloc (Nat.le_refl _) _).drew.trans (b1.mono (by simp))⟩))
  go_region_held3 (fun w' => w'.cell? ⟨bp, 2, none⟩ = some (.pointer (some ⟨pb, 0, none⟩)) ∧ w'.cell? ⟨bp, 10, none⟩ = some (.int .i64 r))
    (first | exact HC.out _ (Below.refl _ w).drew | exact HC.out _ ((Below.refl _ w).drew.alloc (Nat.le_refl _) _) | exact HC.out _ ((Below.refl _ w).alloc (Nat.le_refl _) _).drew | exact HC.out _ HB1.out | exact HC.out _ (HB1.out.alloc HB1.out.size _) | exact HC.out _ HB2.out | exact HC.out _ (((HB2.out.setCell (p := ⟨w.heap.size, 0, none⟩) (Nat.le_refl _) _).setCell (p := ⟨w.heap.size, 1, none⟩) (Nat.le_refl _) _)))
    ((first | (go_at_call 154; (with_reducible refine Calls.mono (HG.out _ (Below.refl _ w).drew) ?_); rintro e w' ⟨rfl, b1⟩; have HB1 := hide ((Below.refl _ w).drew.trans b1); clear b1) | (go_at_call 154; (with_reducible refine Calls.mono (HG.out _ ((Below.refl _ w).alloc (Nat.le_refl _) _).drew) ?_); rintro e w' ⟨rfl, b1⟩; obtain ⟨⟨k0, k1, f0, f1⟩, b2⟩ := HW.out w' b1; have HB2 := hide b2; clear b1 b2)))
  · have HE := hide (HB1.out.alloc HB1.out.size (.cells #[.int .i64 0, .int .i64 0] 159))
    go_wp2_with fail
    go_ret
    exact ⟨rfl, HE.out⟩
  · have HE := hide ((HB2.out.setCell (p := ⟨w.heap.size, 0, none⟩) (Nat.le_refl _) (.int .i64 0)).setCell (p := ⟨w.heap.size, 1, none⟩) (Nat.le_refl _) (.int .i64 0))
    go_wp2_with fail
    go_ret
    exact ⟨rfl, HE.out⟩
set_option maxRecDepth 100000 in
set_option maxHeartbeats 4000000 in
theorem rshut_any {lb : Nat} (w : World) (h : Blk w bp 61 (ybD pt pm tick r tb mb pb ob lb)) (hp : w.cell? ⟨pb, 0, none⟩ = some (.slice none 0 0)) (a : Nat) (ha : 1 ≤ a) (ha2 : a ≤ 1000000) : Calls Tryz.prog 76 #[.pointer (some ⟨bp, 0, none⟩), .int .i64 (a : Int)] w fun e w' => e = .returned (.bool false) ∧ Below w.heap.size w w' := by
  have c11 : w.cell? ⟨bp, 11, none⟩ = some (.bool false) := (h.cell 11).trans rfl
  have c12 : w.cell? ⟨bp, 12, none⟩ = some (.bool false) := (h.cell 12).trans rfl
  obtain ⟨m, rfl⟩ : ∃ m, a = m + 1 := ⟨a - 1, by omega⟩
  have HL := hide (rlocked_any w h hp (m : Int))
  have z1 : ((m + 1 : Nat) : Int) - 1 = (m : Int) := by omega
  obtain ⟨a, haa⟩ : ∃ a : Int, a = ((m + 1 : Nat) : Int) := ⟨_, rfl⟩
  rw [← haa] at z1 ⊢
  have z2 : IntKind.i64.wrap (m : Int) = (m : Int) := by
    exact IntWalk.i64_in _ (by omega)
  clear h hp ha haa
  go_enter Tryz.func76, Tryz.ntmps76
  go_wp2_with (go_at_call 114; (with_reducible refine Calls.mono HL.out ?_); rintro e w2 ⟨rfl, hb⟩; have HB := hide hb; clear hb)
  go_ret
  exact ⟨rfl, HB.out⟩
end
end Go.Proofs.YtnbhejbpofjamaaGreatDoor
namespace Go.Proofs.YtnbhejbpofjamaaGreatDoor
open Go.RowKit

theorem on_stay (p a n : Int) (g : Bool) (w : World) (h : p < a ∨ (p = a ∧ g = false)) : Calls Tryz.prog 121 #[.int .i64 p, .int .i64 a, .int .i64 n, .bool g] w fun e w' => e = .returned (.int .i64 p) ∧ w = w' := by
  rcases h with h | ⟨rfl, rfl⟩
  · have z1 : decide (a < p) = false := by simp; omega
    have z2 : (p == a) = false := by simp; omega
    have z3 : decide (p = a) = false := by simp; omega
    clear h
    go_enter Tryz.func121, Tryz.ntmps121
    go_wp2
    go_ret
    exact ⟨rfl, rfl⟩
  · go_enter Tryz.func121, Tryz.ntmps121
    go_wp2
    go_ret
    exact ⟨rfl, rfl⟩
theorem on_min {pt : Nat} (h : 1 ≤ pt) (n : Nat) (w : World) : Calls Tryz.prog 121 #[.int .i64 1, .int .i64 (pt : Int), .int .i64 (n : Int), .bool false] w fun e w' => e = .returned (.int .i64 1) ∧ w = w' :=
  on_stay 1 pt n false w (by
    by_cases h1 : pt = 1
    · exact .inr ⟨by omega, rfl⟩
    · exact .inl (by omega))
theorem on_go (a n : Nat) (w : World) (ha : a ≤ 1000000) (hn : n ≤ 1000000) : Calls Tryz.prog 121 #[.int .i64 (a : Int), .int .i64 (a : Int), .int .i64 (n : Int), .bool true] w fun e w' => e = .returned (.int .i64 ((a : Int) + (n : Int))) ∧ w = w' := by
  have h1 : (a : Int) ≤ 1000000 := by omega
  have h2 : (n : Int) ≤ 1000000 := by omega
  clear ha hn
  go_enter Tryz.func121, Tryz.ntmps121
  go_wp2
  go_ret
  exact ⟨rfl, rfl⟩
/-- Where a buffer of the reference lies. -/
structure Yb where
  bp : Nat
  tb : Nat
  tv : Value
  mb : Nat
  mv : Value
  pb : Nat
  ob : Nat
  ov : Value
  lb : Lb
def yrest (z : Yb) (p q : Int) : Heap := [(z.mb, .cells 216 #[z.mv, .int .i64 0]), (z.pb, .cells 219 #[.slice none 0 0]), (z.ob, .cells 222 #[z.ov, .int .i64 0, .int .i64 p, .int .i64 q])]
abbrev yD (z : Yb) (pt pm tick : Nat) (r : Int) : Array Value := ybD pt pm tick r z.tb z.mb z.pb z.ob z.lb.lb
/-- A buffer of the reference lies in memory, its cells being cs, beside X. -/
structure YAt (W w : World) (z : Yb) (L : List Nat) (lg : Lg) (cs : Array Value) (p q : Int) (X : Heap) : Prop where
  log : RefAt W w z.lb lg ((z.bp, .cells 61 cs) :: (yrest z p q ++ (rHeap z.tb z.tv L ++ X)))
  okt : RowOk z.tv L.length
  mvf : ∃ A c, z.mv = .slice A 0 c
  ovf : ∃ A c, z.ov = .slice A 0 c
def lgM (tick n : Nat) : Lg := if tick = 0 then lg2 1 else lg3 1 (n + 1)
section
variable {W w w' : World} {z : Yb} {L : List Nat} {lg : Lg} {cs : Array Value} {p q r : Int} {X : Heap} {tick pt pm : Nat}
theorem YAt.own (h : YAt W w z L lg cs p q X) : Own W w (z.lb.rheap lg ++ ((z.bp, .cells 61 cs) :: (yrest z p q ++ (rHeap z.tb z.tv L ++ X)))) := h.log.own
theorem YAt.below (h : YAt W w z L lg cs p q X) (hb : Below w.heap.size w w') : YAt W w' z L lg cs p q X := ⟨h.log.below hb, h.okt, h.mvf, h.ovf⟩
theorem YAt.blk (h : YAt W w z L lg cs p q X) : Blk w z.bp 61 cs := h.log.restBlk
theorem YAt.mk_ (h : YAt W w z L lg cs p q X) : Blk w z.mb 216 #[z.mv, .int .i64 0] := h.own.blk (List.mem_append_right _ (by simp [yrest]))
theorem YAt.pb_ (h : YAt W w z L lg cs p q X) : w.cell? ⟨z.pb, 0, none⟩ = some (.slice none 0 0) := (((show Blk w z.pb 219 #[.slice none 0 0] from h.own.blk (List.mem_append_right _ (by simp [yrest]))).cell 0)).trans rfl
theorem YAt.ov_ (h : YAt W w z L lg cs p q X) : Blk w z.ob 222 #[z.ov, .int .i64 0, .int .i64 p, .int .i64 q] := h.own.blk (List.mem_append_right _ (by simp [yrest]))
theorem YAt.set_ (h : YAt W w z L lg cs p q X) (i : Nat) (u : Value) : YAt W (w.setCell ⟨z.bp, i, none⟩ u) z L lg (cs.setIfInBounds i u) p q X := ⟨h.log.setRest i u, h.okt, h.mvf, h.ovf⟩
theorem YAt.noted {b' : Lb} {lg' : Lg} {cs' : Array Value} (h : YAt W w z L lg cs p q X) (hl : RefAt W w' b' lg' ((z.bp, .cells 61 cs') :: (yrest z p q ++ (rHeap z.tb z.tv L ++ X)))) : YAt W w' { z with lb := b' } L lg' cs' p q X := ⟨hl, h.okt, h.mvf, h.ovf⟩
theorem YAt.text (h : YAt W w z L lg cs p q X) : RtAt W w z.tb z.tv L ((z.bp, .cells 61 cs) :: (yrest z p q ++ (z.lb.rheap lg ++ X))) := ⟨h.own.perm (zperm _ _ _ _ _), h.okt⟩
theorem YAt.ofText {v' : Value} {L' : List Nat} (h : YAt W w z L lg cs p q X) (ht : RtAt W w' z.tb v' L' ((z.bp, .cells 61 cs) :: (yrest z p q ++ (z.lb.rheap lg ++ X)))) : YAt W w' { z with tv := v' } L' lg cs p q X :=
  ⟨⟨ht.own.perm (zperm _ _ _ _ _), h.log.ok⟩, ht.ok, h.mvf, h.ovf⟩
theorem YAt.marks {A : Option Addr} {c : Nat} (h : YAt W w z L lg cs p q X) (ho : Only (· = z.mb) w w') (hb : Blk w' z.mb 216 #[.slice A 0 c, .int .i64 0]) : YAt W w' { z with mv := .slice A 0 c } L lg cs p q X := by
  have h1 := h.own.perm (R := (z.mb, .cells 216 #[z.mv, .int .i64 0]) :: (z.lb.rheap lg ++ ((z.bp, .cells 61 cs) :: ([(z.pb, .cells 219 #[.slice none 0 0]), (z.ob, .cells 222 #[z.ov, .int .i64 0, .int .i64 p, .int .i64 q])] ++ (rHeap z.tb z.tv L ++ X))))) (by
    classical
    rw [List.perm_iff_count]
    intro x
    simp only [yrest, List.count_append, List.count_cons, List.count_nil]
    omega)
  have h2 := h1.turn (b := .cells 216 #[.slice A 0 c, .int .i64 0]) ho hb
  refine ⟨⟨h2.perm ?_, h.log.ok⟩, h.okt, ⟨A, c, rfl⟩, h.ovf⟩
  classical
  rw [List.perm_iff_count]
  intro x
  simp only [yrest, List.count_append, List.count_cons, List.count_nil]
  omega
theorem YAt.overs {A : Option Addr} {c : Nat} (h : YAt W w z L lg cs p q X) (ho : Only (· = z.ob) w w') (hb : Blk w' z.ob 222 #[.slice A 0 c, .int .i64 0, .int .i64 p, .int .i64 q]) : YAt W w' { z with ov := .slice A 0 c } L lg cs p q X := by
  have h1 := h.own.perm (R := (z.ob, .cells 222 #[z.ov, .int .i64 0, .int .i64 p, .int .i64 q]) :: (z.lb.rheap lg ++ ((z.bp, .cells 61 cs) :: ([(z.mb, .cells 216 #[z.mv, .int .i64 0]), (z.pb, .cells 219 #[.slice none 0 0])] ++ (rHeap z.tb z.tv L ++ X))))) (by
    classical
    rw [List.perm_iff_count]
    intro x
    simp only [yrest, List.count_append, List.count_cons, List.count_nil]
    omega)
  have h2 := h1.turn (b := .cells 222 #[.slice A 0 c, .int .i64 0, .int .i64 p, .int .i64 q]) ho hb
  refine ⟨⟨h2.perm ?_, h.log.ok⟩, h.okt, h.mvf, ⟨A, c, rfl⟩⟩
  classical
  rw [List.perm_iff_count]
  intro x
  simp only [yrest, List.count_append, List.count_cons, List.count_nil]
  omega
theorem rbegin_any (h : YAt W w z L (lgS tick L.length) (yD z pt pm tick r) p q X) (hp : pt = L.length + 1) (h6 : L.length ≤ 65536) (h0 : tick = 0 → L = []) :
    Calls Tryz.prog 116 #[.pointer (some ⟨z.bp, 0, none⟩)] w (RNoted W z.lb (lgM tick L.length) z.bp (yD z pt pm tick r) (yrest z p q ++ (rHeap z.tb z.tv L ++ X))) := by
  by_cases ht : tick = 0
  · have hL := h0 ht
    subst ht hL
    obtain rfl : pt = 1 := hp
    exact rbegin_fresh (pt := 1) h.log (Nat.le_refl _) (by omega)
  · have h1 := h.log
    rw [show lgS tick L.length = lg3 1 (L.length + 1) from if_neg ht] at h1
    refine (rbegin_more h1).mono ?_
    rintro e w' ⟨rfl, q', rfl⟩
    refine ⟨rfl, z.lb, rfl, ?_⟩
    rw [show lgM tick L.length = lg3 1 (L.length + 1) from if_neg ht]
    exact h1.drewN q'
theorem rlog_any {b : Lb} {bp tb mb pb ob n0 n : Nat} {R : Heap} (h : RefAt W w b (lgM tick n0) ((bp, .cells 61 (ybD pt pm tick r tb mb pb ob b.lb)) :: R)) (h0 : tick = 0 → n0 = 0) (hn0 : n0 ≤ 65536) (hn : n ≤ 65536) :
    Calls Tryz.prog 122 #[.pointer (some ⟨bp, 0, none⟩), .agg #[.int .i64 1, .int .i64 ((n0 + 1 : Nat) : Int), .int .i64 ((n0 + 1 + n : Nat) : Int), .int .i64 0, .int .i64 0, .string ⟨#[]⟩, .int .i64 0, .int .i64 0, .bool false]] w (RNoted W b (lg3 1 (n0 + 1 + n)) bp (ybD pt pm tick r tb mb pb ob b.lb) R) := by
  by_cases ht : tick = 0
  · have e := h0 ht
    subst e
    rw [show lgM tick 0 = lg2 1 from if_pos ht] at h
    exact rlog_ins h (0 + 1 + n) (Nat.le_refl _) (by omega) (by omega)
  · rw [show lgM tick n0 = lg3 1 (n0 + 1) from if_neg ht] at h
    exact rlog_more (n0 + 1) h (n0 + 1 + n) (by omega) (by omega) (by omega)
def YPut (W : World) (z : Yb) (L : List Nat) (tick : Nat) (p q r : Int) (s : ByteArray) (X : Heap) (e : Ending) (w' : World) : Prop :=
  e = .returned (.tuple #[]) ∧ ∃ z' : Yb, z'.bp = z.bp ∧ YAt W w' z' (L ++ charsOf s) (lg3 1 (L.length + 1 + lenS s)) (yD z' (L.length + 1) (L.length + 1 + lenS s) (tick + 1) r) p q X
set_option maxRecDepth 100000 in
set_option maxHeartbeats 16000000 in
theorem yput_some (h : YAt W w z L (lgS tick L.length) (yD z (L.length + 1) (L.length + 1) tick r) p q X) (h6 : L.length ≤ 65536) (h0 : tick = 0 → L = []) (s : ByteArray) (hs : s.size ≤ 300) (hf : fitE L s = 0) (hz : lenS s ≠ 0) (htk : tick ≤ 1000000) :
    Calls Tryz.prog 78 #[.pointer (some ⟨z.bp, 0, none⟩), .int .i64 ((L.length + 1 : Nat) : Int), .string s, .bool false] w (YPut W z L tick p q r s X) := by
  have hL1 : L.length + lenS s ≤ 65536 := by
    unfold fitE at hf
    split at hf
    · cases hf
    · split at hf
      · cases hf
      · omega
  have hV1 : validS s = true := by
    unfold fitE at hf
    split at hf
    · cases hf
    · rename_i h9
      simpa using h9
  have HIN := hide (show insErr L ((L.length + 1 : Nat) : Int) s = 0 ∧ insL L ((L.length + 1 : Nat) : Int) s = L ++ charsOf s from by
    have he : insErr L ((L.length + 1 : Nat) : Int) s = 0 := by
      unfold insErr
      rw [if_neg (by omega), if_neg (by rw [hV1]; simp), if_neg (by omega)]
    refine ⟨he, ?_⟩
    unfold insL
    rw [if_pos he, show (((L.length + 1 : Nat) : Int) - 1).toNat = L.length by omega, List.take_of_length_le (Nat.le_refl _), List.drop_of_length_le (Nat.le_refl _), List.append_nil])
  obtain ⟨n, hn⟩ : ∃ n, n = lenS s := ⟨_, rfl⟩
  have HL := reflen_any s w (by omega)
  rw [← hn] at HL
  have HL := hide HL
  have HNO := hide (fun (w' : World) (hb : Below w.heap.size w w') => rbegin_any (h.below hb) rfl h6 h0)
  obtain ⟨n0, hn0⟩ : ∃ n0, n0 = L.length := ⟨_, rfl⟩
  have HN0 := hide hn0
  have HN0L := hide (show tick = 0 → n0 = 0 from fun ht => by rw [hn0, h0 ht]; rfl)
  rw [← hn0] at HNO h HIN ⊢
  obtain ⟨pt, hpt⟩ : ∃ pt, pt = n0 + 1 := ⟨_, rfl⟩
  rw [← hpt] at HNO HIN h ⊢
  have HPT := hide hpt
  have HPT1 := hide (show 1 ≤ pt by omega)
  have HN := hide hn
  have H := hide h
  have HS := hide hs
  have hp1 : (pt : Int) ≤ 65537 := by omega
  have hn1 : (n : Int) ≤ 65536 := by omega
  have htk1 : (tick : Int) ≤ 1000000 := by omega
  have HP1 := hide hp1
  have HN1 := hide hn1
  have HL6 := hide h6
  have hz1 : ((n : Int) == 0) = false := by simp; omega
  have hz2 : decide ((n : Int) = 0) = false := by simp; omega
  have HZ := hide hz
  clear h h0 hs hf hz htk hL1 hV1 hn hpt hn0 h6
  go_enter Tryz.func78, Tryz.ntmps78
  go_wp2_with fail
  refine Calls.mono HL.out ?_
  rintro e w1 ⟨rfl, b1⟩
  have HB1 := hide b1
  clear b1
  go_wp2_with fail
  refine Calls.mono (HNO.out _ HB1.out) ?_
  rintro e w2 ⟨rfl, lb2, hlb2, h2⟩
  obtain ⟨z2, hz2'⟩ : ∃ z2 : Yb, z2 = { z with lb := lb2 } := ⟨_, rfl⟩
  have h2' : YAt W w2 z2 L (lgM tick n0) (yD z2 pt pt tick r) p q X := by
    have h9 := (H.out.below HB1.out).noted h2
    rw [← hz2'] at h9
    have e1 : yD z2 pt pt tick r = yD z pt pt tick r := by rw [hz2']; unfold yD; rw [hlb2]
    rw [e1]
    exact h9
  have hb2 : z2.bp = z.bp := by rw [hz2']
  have H2 := hide h2'
  have HBP := hide hb2
  rw [← hb2]
  clear h2 hz2' hlb2 hb2 h2'
  have c0 : w2.cell? ⟨z2.bp, 0, none⟩ = some (.pointer (some ⟨z2.tb, 0, none⟩)) := (H2.out.blk.cell 0).trans rfl
  go_wp2_with fail
  refine Calls.mono (rins_any H2.out.text HL6.out (pt : Int) s (by have := HS.out; omega)) ?_
  rintro e w3 ⟨rfl, v3, h3⟩
  rw [HIN.out.2] at h3
  have h3' := H2.out.ofText h3
  obtain ⟨z3, hz3⟩ : ∃ z3 : Yb, z3 = { z2 with tv := v3 } := ⟨_, rfl⟩
  rw [← hz3] at h3'
  have h3z : YAt W w3 z3 (L ++ charsOf s) (lgM tick n0) (yD z3 pt pt tick r) p q X := by
    have e1 : yD z3 pt pt tick r = yD z2 pt pt tick r := by rw [hz3]
    rw [e1]
    exact h3'
  have hb3 : z3.bp = z2.bp := by rw [hz3]
  rw [← hb3]
  have HBP := hide (hb3.trans HBP.out)
  have H3 := hide h3z
  clear h3 h3' hz3 h3z c0 hb3
  have c1 : w3.cell? ⟨z3.bp, 1, none⟩ = some (.pointer (some ⟨z3.mb, 0, none⟩)) := (H3.out.blk.cell 1).trans rfl
  obtain ⟨A3, d3, hm3⟩ := H3.out.mvf
  have hmk := H3.out.mk_
  rw [hm3] at hmk
  have HMI := hide (r16_ins z3.mb A3 d3 0 w3 hmk pt n HPT1.out (by have := HP1.out; omega) (by have := HN1.out; omega) false)
  clear hm3 hmk
  go_wp2_with fail
  refine Calls.mono HMI.out ?_
  rintro e w4 ⟨rfl, A4, d4, o4, k4⟩
  have h4 := H3.out.marks o4 k4
  obtain ⟨z4, hz4⟩ : ∃ z4 : Yb, z4 = { z3 with mv := .slice A4 0 d4 } := ⟨_, rfl⟩
  rw [← hz4] at h4
  have h4z : YAt W w4 z4 (L ++ charsOf s) (lgM tick n0) (yD z4 pt pt tick r) p q X := by
    have e1 : yD z4 pt pt tick r = yD z3 pt pt tick r := by rw [hz4]
    rw [e1]
    exact h4
  have hb4 : z4.bp = z3.bp := by rw [hz4]
  rw [← hb4]
  have HBP := hide (hb4.trans HBP.out)
  have H4 := hide h4z
  clear h4 hz4 h4z c1 hb4 o4 k4 HMI
  have c2 : w4.cell? ⟨z4.bp, 2, none⟩ = some (.pointer (some ⟨z4.pb, 0, none⟩)) := (H4.out.blk.cell 2).trans rfl
  go_wp2_with fail
  refine Calls.mono (r17_ins z4.pb w4 H4.out.pb_ pt n HPT1.out (by have := HP1.out; omega) (by have := HN1.out; omega)) ?_
  rintro e w5 ⟨rfl, rfl⟩
  have c3 : w4.cell? ⟨z4.bp, 3, none⟩ = some (.pointer (some ⟨z4.ob, 0, none⟩)) := (H4.out.blk.cell 3).trans rfl
  obtain ⟨A5, d5, hm5⟩ := H4.out.ovf
  have hok := H4.out.ov_
  rw [hm5] at hok
  have HOI := hide (r18_ins z4.ob A5 d5 0 p q w4 hok pt n HPT1.out (by have := HP1.out; omega) (by have := HN1.out; omega))
  clear hm5 hok c2
  go_wp2_with fail
  refine Calls.mono HOI.out ?_
  rintro e w6 ⟨rfl, A6, d6, o6, k6⟩
  have h6 := H4.out.overs o6 k6
  obtain ⟨z3, hz6⟩ : ∃ z6 : Yb, z6 = { z4 with ov := .slice A6 0 d6 } := ⟨_, rfl⟩
  rw [← hz6] at h6
  have h6z : YAt W w6 z3 (L ++ charsOf s) (lgM tick n0) (yD z3 pt pt tick r) p q X := by
    have e1 : yD z3 pt pt tick r = yD z4 pt pt tick r := by rw [hz6]
    rw [e1]
    exact h6
  have hb6 : z3.bp = z4.bp := by rw [hz6]
  rw [← hb6]
  have HBP := hide (hb6.trans HBP.out)
  have H6 := hide h6z
  clear h6 hz6 h6z c3 hb6 o6 k6 HOI
  go_upto_region 7 with fail
  have HB0 := hide (H6.out.below (Below.refl _ w6).drew)
  have hS0 : (w6.cell? ⟨z3.bp, 5, none⟩ = some (.int .i64 (pt : Int)) ∧ w6.cell? ⟨z3.bp, 6, none⟩ = some (.int .i64 1) ∧ w6.cell? ⟨z3.bp, 7, none⟩ = some (.int .i64 (pt : Int)) ∧ w6.cell? ⟨z3.bp, 8, none⟩ = some (.int .i64 0)) := ⟨(H6.out.blk.cell 5).trans rfl, (H6.out.blk.cell 6).trans rfl, (H6.out.blk.cell 7).trans rfl, (H6.out.blk.cell 8).trans rfl⟩
  refine wp_region_d (S := fun y => (y.cell? ⟨z3.bp, 5, none⟩ = some (.int .i64 (pt : Int)) ∧ y.cell? ⟨z3.bp, 6, none⟩ = some (.int .i64 1) ∧ y.cell? ⟨z3.bp, 7, none⟩ = some (.int .i64 (pt : Int)) ∧ y.cell? ⟨z3.bp, 8, none⟩ = some (.int .i64 0))) (D := [36, 39, 42, 45]) (by kernel_rfl) ?_
  change wpAnyD _ _ _ _ _ _ _ _ _ w6.drew
  obtain ⟨w7, hw7⟩ : ∃ y : World, y = w6.drew := ⟨_, rfl⟩
  rw [← hw7] at HB0 ⊢
  clear hw7 hS0
  have hS : (w7.cell? ⟨z3.bp, 5, none⟩ = some (.int .i64 (pt : Int)) ∧ w7.cell? ⟨z3.bp, 6, none⟩ = some (.int .i64 1) ∧ w7.cell? ⟨z3.bp, 7, none⟩ = some (.int .i64 (pt : Int)) ∧ w7.cell? ⟨z3.bp, 8, none⟩ = some (.int .i64 0)) := ⟨(HB0.out.blk.cell 5).trans rfl, (HB0.out.blk.cell 6).trans rfl, (HB0.out.blk.cell 7).trans rfl, (HB0.out.blk.cell 8).trans rfl⟩
  have HON := hide HB0.out.blk
  refine wpAnyD_takeW (i := 0) (oi := { dst := some 46, op := Op.move (Operand.tmp 0), type := 51, pos := "ref.go:145", after := #[], guard := none }) (v := ?_) rfl (by kernel_rfl) (by kernel_rfl) (by kernel_rfl) (fun _ _ _ h => h) (Or.inl ⟨by rfl, ?_⟩) ?_
  rotate_left
  · intro w hSw
    clear hSw
    go_simp
    all_goals with_reducible rfl
  simp only [Act.put, List.setIfInBounds_toArray, List.set_cons_zero, List.set_cons_succ]
  refine wpAnyD_takeW (i := 1) (oi := { dst := some 47, op := Op.move (Operand.tmp 0), type := 51, pos := "ref.go:145", after := #[{ on := 36, ground := Ground.gcOnly Departure.lateStores }], guard := none }) (v := ?_) rfl (by kernel_rfl) (by kernel_rfl) (by kernel_rfl) (fun _ _ _ h => h) (Or.inl ⟨by rfl, ?_⟩) ?_
  rotate_left
  · intro w hSw
    clear hSw
    go_simp
    all_goals with_reducible rfl
  simp only [Act.put, List.setIfInBounds_toArray, List.set_cons_zero, List.set_cons_succ]
  refine wpAnyD_takeW (i := 2) (oi := { dst := some 48, op := Op.move (Operand.tmp 0), type := 51, pos := "ref.go:145", after := #[{ on := 39, ground := Ground.gcOnly Departure.lateStores }], guard := none }) (v := ?_) rfl (by kernel_rfl) (by kernel_rfl) (by kernel_rfl) (fun _ _ _ h => h) (Or.inl ⟨by rfl, ?_⟩) ?_
  rotate_left
  · intro w hSw
    clear hSw
    go_simp
    all_goals with_reducible rfl
  simp only [Act.put, List.setIfInBounds_toArray, List.set_cons_zero, List.set_cons_succ]
  refine wpAnyD_takeW (i := 3) (oi := { dst := some 49, op := Op.move (Operand.tmp 0), type := 51, pos := "ref.go:145", after := #[{ on := 42, ground := Ground.gcOnly Departure.lateStores }], guard := none }) (v := ?_) rfl (by kernel_rfl) (by kernel_rfl) (by kernel_rfl) (fun _ _ _ h => h) (Or.inl ⟨by rfl, ?_⟩) ?_
  rotate_left
  · intro w hSw
    clear hSw
    go_simp
    all_goals with_reducible rfl
  simp only [Act.put, List.setIfInBounds_toArray, List.set_cons_zero, List.set_cons_succ]
  refine wpAnyD_takeW (i := 4) (oi := { dst := some 50, op := Op.move (Operand.tmp 0), type := 51, pos := "ref.go:145", after := #[], guard := none }) (v := ?_) rfl (by kernel_rfl) (by kernel_rfl) (by kernel_rfl) (fun _ _ _ h => h) (Or.inl ⟨by rfl, ?_⟩) ?_
  rotate_left
  · intro w hSw
    clear hSw
    go_simp
    all_goals with_reducible rfl
  simp only [Act.put, List.setIfInBounds_toArray, List.set_cons_zero, List.set_cons_succ]
  refine wpAnyD_takeW (i := 5) (oi := { dst := some 51, op := Op.nilCheck (Operand.tmp 50), type := 0, pos := "ref.go:145", after := #[{ on := 4, ground := Ground.data }], guard := none }) (v := ?_) rfl (by kernel_rfl) (by kernel_rfl) (by kernel_rfl) (fun _ _ _ h => h) (Or.inl ⟨by rfl, ?_⟩) ?_
  rotate_left
  · intro w hSw
    clear hSw
    go_simp
    all_goals with_reducible rfl
  simp only [Act.put, List.setIfInBounds_toArray, List.set_cons_zero, List.set_cons_succ]
  refine wpAnyD_takeW (i := 6) (oi := { dst := some 52, op := Op.fieldAddr 61 (Operand.tmp 51) 5, type := 0, pos := "ref.go:145", after := #[{ on := 5, ground := Ground.data }], guard := none }) (v := ?_) rfl (by kernel_rfl) (by kernel_rfl) (by kernel_rfl) (fun _ _ _ h => h) (Or.inl ⟨by rfl, ?_⟩) ?_
  rotate_left
  · intro w hSw
    clear hSw
    go_simp
    all_goals with_reducible rfl
  simp only [Act.put, List.setIfInBounds_toArray, List.set_cons_zero, List.set_cons_succ]
  refine wpAnyD_take (i := 7) (oi := { dst := some 53, op := Op.load 3 (Operand.tmp 52), type := 3, pos := "ref.go:145", after := #[{ on := 6, ground := Ground.data }], guard := none }) (v := ?_) rfl (by kernel_rfl) (by kernel_rfl) (by kernel_rfl) (by kernel_rfl) (by kernel_rfl) (fun _ _ _ h => h) (Or.inl ⟨by rfl, ?_⟩) hS ?_
  rotate_left
  · intro w hSw
    obtain ⟨s0, s1, s2, s3⟩ := hSw
    go_simp
    all_goals with_reducible rfl
  simp only [Act.put, List.setIfInBounds_toArray, List.set_cons_zero, List.set_cons_succ]
  refine wpAnyD_takeW (i := 8) (oi := { dst := some 54, op := Op.move (Operand.tmp 1), type := 3, pos := "ref.go:145", after := #[], guard := none }) (v := ?_) rfl (by kernel_rfl) (by kernel_rfl) (by kernel_rfl) (fun _ _ _ h => h) (Or.inl ⟨by rfl, ?_⟩) ?_
  rotate_left
  · intro w hSw
    clear hSw
    go_simp
    all_goals with_reducible rfl
  simp only [Act.put, List.setIfInBounds_toArray, List.set_cons_zero, List.set_cons_succ]
  refine wpAnyD_takeW (i := 9) (oi := { dst := some 55, op := Op.move (Operand.tmp 8), type := 3, pos := "ref.go:145", after := #[], guard := none }) (v := ?_) rfl (by kernel_rfl) (by kernel_rfl) (by kernel_rfl) (fun _ _ _ h => h) (Or.inl ⟨by rfl, ?_⟩) ?_
  rotate_left
  · intro w hSw
    clear hSw
    go_simp
    all_goals with_reducible rfl
  simp only [Act.put, List.setIfInBounds_toArray, List.set_cons_zero, List.set_cons_succ]
  refine wpAnyD_takeW (i := 10) (oi := { dst := some 56, op := Op.move (Operand.tmp 3), type := 4, pos := "ref.go:145", after := #[], guard := none }) (v := ?_) rfl (by kernel_rfl) (by kernel_rfl) (by kernel_rfl) (fun _ _ _ h => h) (Or.inl ⟨by rfl, ?_⟩) ?_
  rotate_left
  · intro w hSw
    clear hSw
    go_simp
    all_goals with_reducible rfl
  simp only [Act.put, List.setIfInBounds_toArray, List.set_cons_zero, List.set_cons_succ]
  refine wpAnyD_takeW (i := 12) (oi := { dst := some 58, op := Op.move (Operand.tmp 0), type := 51, pos := "ref.go:145", after := #[], guard := none }) (v := ?_) rfl (by kernel_rfl) (by kernel_rfl) (by kernel_rfl) (fun _ _ _ h => h) (Or.inl ⟨by rfl, ?_⟩) ?_
  rotate_left
  · intro w hSw
    clear hSw
    go_simp
    all_goals with_reducible rfl
  simp only [Act.put, List.setIfInBounds_toArray, List.set_cons_zero, List.set_cons_succ]
  refine wpAnyD_takeW (i := 13) (oi := { dst := some 59, op := Op.nilCheck (Operand.tmp 58), type := 0, pos := "ref.go:145", after := #[{ on := 12, ground := Ground.data }], guard := none }) (v := ?_) rfl (by kernel_rfl) (by kernel_rfl) (by kernel_rfl) (fun _ _ _ h => h) (Or.inl ⟨by rfl, ?_⟩) ?_
  rotate_left
  · intro w hSw
    clear hSw
    go_simp
    all_goals with_reducible rfl
  simp only [Act.put, List.setIfInBounds_toArray, List.set_cons_zero, List.set_cons_succ]
  refine wpAnyD_takeW (i := 14) (oi := { dst := some 60, op := Op.fieldAddr 61 (Operand.tmp 59) 6, type := 0, pos := "ref.go:145", after := #[{ on := 13, ground := Ground.data }], guard := none }) (v := ?_) rfl (by kernel_rfl) (by kernel_rfl) (by kernel_rfl) (fun _ _ _ h => h) (Or.inl ⟨by rfl, ?_⟩) ?_
  rotate_left
  · intro w hSw
    clear hSw
    go_simp
    all_goals with_reducible rfl
  simp only [Act.put, List.setIfInBounds_toArray, List.set_cons_zero, List.set_cons_succ]
  refine wpAnyD_take (i := 15) (oi := { dst := some 61, op := Op.load 3 (Operand.tmp 60), type := 3, pos := "ref.go:145", after := #[{ on := 14, ground := Ground.data }], guard := none }) (v := ?_) rfl (by kernel_rfl) (by kernel_rfl) (by kernel_rfl) (by kernel_rfl) (by kernel_rfl) (fun _ _ _ h => h) (Or.inl ⟨by rfl, ?_⟩) hS ?_
  rotate_left
  · intro w hSw
    obtain ⟨s0, s1, s2, s3⟩ := hSw
    go_simp
    all_goals with_reducible rfl
  simp only [Act.put, List.setIfInBounds_toArray, List.set_cons_zero, List.set_cons_succ]
  refine wpAnyD_takeW (i := 16) (oi := { dst := some 62, op := Op.move (Operand.tmp 1), type := 3, pos := "ref.go:145", after := #[], guard := none }) (v := ?_) rfl (by kernel_rfl) (by kernel_rfl) (by kernel_rfl) (fun _ _ _ h => h) (Or.inl ⟨by rfl, ?_⟩) ?_
  rotate_left
  · intro w hSw
    clear hSw
    go_simp
    all_goals with_reducible rfl
  simp only [Act.put, List.setIfInBounds_toArray, List.set_cons_zero, List.set_cons_succ]
  refine wpAnyD_takeW (i := 17) (oi := { dst := some 63, op := Op.move (Operand.tmp 8), type := 3, pos := "ref.go:145", after := #[], guard := none }) (v := ?_) rfl (by kernel_rfl) (by kernel_rfl) (by kernel_rfl) (fun _ _ _ h => h) (Or.inl ⟨by rfl, ?_⟩) ?_
  rotate_left
  · intro w hSw
    clear hSw
    go_simp
    all_goals with_reducible rfl
  simp only [Act.put, List.setIfInBounds_toArray, List.set_cons_zero, List.set_cons_succ]
  refine wpAnyD_takeW (i := 19) (oi := { dst := some 65, op := Op.move (Operand.tmp 0), type := 51, pos := "ref.go:145", after := #[], guard := none }) (v := ?_) rfl (by kernel_rfl) (by kernel_rfl) (by kernel_rfl) (fun _ _ _ h => h) (Or.inl ⟨by rfl, ?_⟩) ?_
  rotate_left
  · intro w hSw
    clear hSw
    go_simp
    all_goals with_reducible rfl
  simp only [Act.put, List.setIfInBounds_toArray, List.set_cons_zero, List.set_cons_succ]
  refine wpAnyD_takeW (i := 20) (oi := { dst := some 66, op := Op.nilCheck (Operand.tmp 65), type := 0, pos := "ref.go:145", after := #[{ on := 19, ground := Ground.data }], guard := none }) (v := ?_) rfl (by kernel_rfl) (by kernel_rfl) (by kernel_rfl) (fun _ _ _ h => h) (Or.inl ⟨by rfl, ?_⟩) ?_
  rotate_left
  · intro w hSw
    clear hSw
    go_simp
    all_goals with_reducible rfl
  simp only [Act.put, List.setIfInBounds_toArray, List.set_cons_zero, List.set_cons_succ]
  refine wpAnyD_takeW (i := 21) (oi := { dst := some 67, op := Op.fieldAddr 61 (Operand.tmp 66) 7, type := 0, pos := "ref.go:145", after := #[{ on := 20, ground := Ground.data }], guard := none }) (v := ?_) rfl (by kernel_rfl) (by kernel_rfl) (by kernel_rfl) (fun _ _ _ h => h) (Or.inl ⟨by rfl, ?_⟩) ?_
  rotate_left
  · intro w hSw
    clear hSw
    go_simp
    all_goals with_reducible rfl
  simp only [Act.put, List.setIfInBounds_toArray, List.set_cons_zero, List.set_cons_succ]
  refine wpAnyD_take (i := 22) (oi := { dst := some 68, op := Op.load 3 (Operand.tmp 67), type := 3, pos := "ref.go:145", after := #[{ on := 21, ground := Ground.data }], guard := none }) (v := ?_) rfl (by kernel_rfl) (by kernel_rfl) (by kernel_rfl) (by kernel_rfl) (by kernel_rfl) (fun _ _ _ h => h) (Or.inl ⟨by rfl, ?_⟩) hS ?_
  rotate_left
  · intro w hSw
    obtain ⟨s0, s1, s2, s3⟩ := hSw
    go_simp
    all_goals with_reducible rfl
  simp only [Act.put, List.setIfInBounds_toArray, List.set_cons_zero, List.set_cons_succ]
  refine wpAnyD_takeW (i := 23) (oi := { dst := some 69, op := Op.move (Operand.tmp 1), type := 3, pos := "ref.go:145", after := #[], guard := none }) (v := ?_) rfl (by kernel_rfl) (by kernel_rfl) (by kernel_rfl) (fun _ _ _ h => h) (Or.inl ⟨by rfl, ?_⟩) ?_
  rotate_left
  · intro w hSw
    clear hSw
    go_simp
    all_goals with_reducible rfl
  simp only [Act.put, List.setIfInBounds_toArray, List.set_cons_zero, List.set_cons_succ]
  refine wpAnyD_takeW (i := 24) (oi := { dst := some 70, op := Op.move (Operand.tmp 8), type := 3, pos := "ref.go:145", after := #[], guard := none }) (v := ?_) rfl (by kernel_rfl) (by kernel_rfl) (by kernel_rfl) (fun _ _ _ h => h) (Or.inl ⟨by rfl, ?_⟩) ?_
  rotate_left
  · intro w hSw
    clear hSw
    go_simp
    all_goals with_reducible rfl
  simp only [Act.put, List.setIfInBounds_toArray, List.set_cons_zero, List.set_cons_succ]
  refine wpAnyD_takeW (i := 26) (oi := { dst := some 72, op := Op.move (Operand.tmp 0), type := 51, pos := "ref.go:145", after := #[], guard := none }) (v := ?_) rfl (by kernel_rfl) (by kernel_rfl) (by kernel_rfl) (fun _ _ _ h => h) (Or.inl ⟨by rfl, ?_⟩) ?_
  rotate_left
  · intro w hSw
    clear hSw
    go_simp
    all_goals with_reducible rfl
  simp only [Act.put, List.setIfInBounds_toArray, List.set_cons_zero, List.set_cons_succ]
  refine wpAnyD_takeW (i := 27) (oi := { dst := some 73, op := Op.nilCheck (Operand.tmp 72), type := 0, pos := "ref.go:145", after := #[{ on := 26, ground := Ground.data }], guard := none }) (v := ?_) rfl (by kernel_rfl) (by kernel_rfl) (by kernel_rfl) (fun _ _ _ h => h) (Or.inl ⟨by rfl, ?_⟩) ?_
  rotate_left
  · intro w hSw
    clear hSw
    go_simp
    all_goals with_reducible rfl
  simp only [Act.put, List.setIfInBounds_toArray, List.set_cons_zero, List.set_cons_succ]
  refine wpAnyD_takeW (i := 28) (oi := { dst := some 74, op := Op.fieldAddr 61 (Operand.tmp 73) 8, type := 0, pos := "ref.go:145", after := #[{ on := 27, ground := Ground.data }], guard := none }) (v := ?_) rfl (by kernel_rfl) (by kernel_rfl) (by kernel_rfl) (fun _ _ _ h => h) (Or.inl ⟨by rfl, ?_⟩) ?_
  rotate_left
  · intro w hSw
    clear hSw
    go_simp
    all_goals with_reducible rfl
  simp only [Act.put, List.setIfInBounds_toArray, List.set_cons_zero, List.set_cons_succ]
  refine wpAnyD_take (i := 29) (oi := { dst := some 75, op := Op.load 3 (Operand.tmp 74), type := 3, pos := "ref.go:145", after := #[{ on := 28, ground := Ground.data }], guard := none }) (v := ?_) rfl (by kernel_rfl) (by kernel_rfl) (by kernel_rfl) (by kernel_rfl) (by kernel_rfl) (fun _ _ _ h => h) (Or.inl ⟨by rfl, ?_⟩) hS ?_
  rotate_left
  · intro w hSw
    obtain ⟨s0, s1, s2, s3⟩ := hSw
    go_simp
    all_goals with_reducible rfl
  simp only [Act.put, List.setIfInBounds_toArray, List.set_cons_zero, List.set_cons_succ]
  refine wpAnyD_takeW (i := 30) (oi := { dst := some 76, op := Op.move (Operand.tmp 1), type := 3, pos := "ref.go:145", after := #[], guard := none }) (v := ?_) rfl (by kernel_rfl) (by kernel_rfl) (by kernel_rfl) (fun _ _ _ h => h) (Or.inl ⟨by rfl, ?_⟩) ?_
  rotate_left
  · intro w hSw
    clear hSw
    go_simp
    all_goals with_reducible rfl
  simp only [Act.put, List.setIfInBounds_toArray, List.set_cons_zero, List.set_cons_succ]
  refine wpAnyD_takeW (i := 31) (oi := { dst := some 77, op := Op.move (Operand.tmp 8), type := 3, pos := "ref.go:145", after := #[], guard := none }) (v := ?_) rfl (by kernel_rfl) (by kernel_rfl) (by kernel_rfl) (fun _ _ _ h => h) (Or.inl ⟨by rfl, ?_⟩) ?_
  rotate_left
  · intro w hSw
    clear hSw
    go_simp
    all_goals with_reducible rfl
  simp only [Act.put, List.setIfInBounds_toArray, List.set_cons_zero, List.set_cons_succ]
  refine wpAnyD_takeW (i := 32) (oi := { dst := some 78, op := Op.move (Operand.tmp 3), type := 4, pos := "ref.go:145", after := #[], guard := none }) (v := ?_) rfl (by kernel_rfl) (by kernel_rfl) (by kernel_rfl) (fun _ _ _ h => h) (Or.inl ⟨by rfl, ?_⟩) ?_
  rotate_left
  · intro w hSw
    clear hSw
    go_simp
    all_goals with_reducible rfl
  simp only [Act.put, List.setIfInBounds_toArray, List.set_cons_zero, List.set_cons_succ]
  refine wpAnyD_one (i := 11) (o := { dst := some 57, op := Op.call { callee := Callee.value (Operand.func 121), args := #[Operand.tmp 53, Operand.tmp 54, Operand.tmp 55, Operand.tmp 56], argTypes := #[3, 3, 3, 4] }, type := 3, pos := "ref.go:145", after := #[{ on := 7, ground := Ground.data }, { on := 8, ground := Ground.data }, { on := 9, ground := Ground.data }, { on := 10, ground := Ground.data }], guard := none }) (by kernel_rfl) rfl (fun K hK => ?_)
  go_simp
  (with_reducible refine Calls.mono (on_stay (pt : Int) (pt : Int) (n : Int) false w7 (.inr ⟨rfl, rfl⟩)) ?_)
  rintro e9 w9 ⟨rfl, rfl⟩
  refine hK _ _ (fun _ _ => hS) ?_
  clear hK K
  try simp only [Act.put, List.setIfInBounds_toArray, List.set_cons_zero, List.set_cons_succ]
  refine wpAnyD_one (i := 18) (o := { dst := some 64, op := Op.call { callee := Callee.value (Operand.func 121), args := #[Operand.tmp 61, Operand.tmp 62, Operand.tmp 63, Operand.const (Value.bool false)], argTypes := #[3, 3, 3, 4] }, type := 3, pos := "ref.go:145", after := #[{ on := 15, ground := Ground.data }, { on := 16, ground := Ground.data }, { on := 17, ground := Ground.data }, { on := 11, ground := Ground.chain }], guard := none }) (by kernel_rfl) rfl (fun K hK => ?_)
  go_simp
  (with_reducible refine Calls.mono (on_min HPT1.out n w7) ?_)
  rintro e9 w9 ⟨rfl, rfl⟩
  refine hK _ _ (fun _ _ => hS) ?_
  clear hK K
  try simp only [Act.put, List.setIfInBounds_toArray, List.set_cons_zero, List.set_cons_succ]
  refine wpAnyD_one (i := 25) (o := { dst := some 71, op := Op.call { callee := Callee.value (Operand.func 121), args := #[Operand.tmp 68, Operand.tmp 69, Operand.tmp 70, Operand.const (Value.bool true)], argTypes := #[3, 3, 3, 4] }, type := 3, pos := "ref.go:145", after := #[{ on := 22, ground := Ground.data }, { on := 23, ground := Ground.data }, { on := 24, ground := Ground.data }, { on := 18, ground := Ground.chain }], guard := none }) (by kernel_rfl) rfl (fun K hK => ?_)
  go_simp
  (with_reducible refine Calls.mono (on_go pt n w7 (by have := HP1.out; omega) (by have := HN1.out; omega)) ?_)
  rintro e9 w9 ⟨rfl, rfl⟩
  refine hK _ _ (fun _ _ => hS) ?_
  clear hK K
  try simp only [Act.put, List.setIfInBounds_toArray, List.set_cons_zero, List.set_cons_succ]
  refine wpAnyD_one (i := 33) (o := { dst := some 79, op := Op.call { callee := Callee.value (Operand.func 121), args := #[Operand.tmp 75, Operand.tmp 76, Operand.tmp 77, Operand.tmp 78], argTypes := #[3, 3, 3, 4] }, type := 3, pos := "ref.go:145", after := #[{ on := 29, ground := Ground.data }, { on := 30, ground := Ground.data }, { on := 31, ground := Ground.data }, { on := 32, ground := Ground.data }, { on := 25, ground := Ground.chain }], guard := none }) (by kernel_rfl) rfl (fun K hK => ?_)
  go_simp
  (with_reducible refine Calls.mono (on_stay 0 (pt : Int) (n : Int) false w7 (.inl (by have := HPT1.out; omega))) ?_)
  rintro e9 w9 ⟨rfl, rfl⟩
  refine hK _ _ (fun _ _ => hS) ?_
  clear hK K
  try simp only [Act.put, List.setIfInBounds_toArray, List.set_cons_zero, List.set_cons_succ]
  have hz := HB0.out
  have f5 := hz.blk.frozen 5
  have f6 := hz.blk.frozen 6
  have f7 := hz.blk.frozen 7
  have f8 := hz.blk.frozen 8
  have HX := hide ((((hz.set_ 5 (.int .i64 (pt : Int))).set_ 6 (.int .i64 1)).set_ 7 (.int .i64 ((pt : Int) + (n : Int)))).set_ 8 (.int .i64 0))
  clear hz
  refine wpAnyD_takeW (i := 34) (oi := { dst := some 80, op := Op.nilCheck (Operand.tmp 46), type := 0, pos := "ref.go:145", after := #[{ on := 0, ground := Ground.data }, { on := 0, ground := Ground.phase }, { on := 1, ground := Ground.textOnly Departure.lateStores }, { on := 2, ground := Ground.textOnly Departure.lateStores }, { on := 3, ground := Ground.textOnly Departure.lateStores }, { on := 4, ground := Ground.phase }, { on := 5, ground := Ground.phase }, { on := 6, ground := Ground.phase }, { on := 7, ground := Ground.phase }, { on := 8, ground := Ground.phase }, { on := 9, ground := Ground.phase }, { on := 10, ground := Ground.phase }, { on := 11, ground := Ground.phase }, { on := 12, ground := Ground.textOnly Departure.lateStores }, { on := 13, ground := Ground.textOnly Departure.lateStoresUnsure }, { on := 14, ground := Ground.textOnly Departure.lateStoresUnsure }, { on := 15, ground := Ground.phase }, { on := 16, ground := Ground.textOnly Departure.lateStores }, { on := 17, ground := Ground.textOnly Departure.lateStores }, { on := 18, ground := Ground.phase }, { on := 19, ground := Ground.textOnly Departure.lateStores }, { on := 20, ground := Ground.textOnly Departure.lateStoresUnsure }, { on := 21, ground := Ground.textOnly Departure.lateStoresUnsure }, { on := 22, ground := Ground.phase }, { on := 23, ground := Ground.textOnly Departure.lateStores }, { on := 24, ground := Ground.textOnly Departure.lateStores }, { on := 25, ground := Ground.phase }, { on := 26, ground := Ground.textOnly Departure.lateStores }, { on := 27, ground := Ground.textOnly Departure.lateStoresUnsure }, { on := 28, ground := Ground.textOnly Departure.lateStoresUnsure }, { on := 29, ground := Ground.phase }, { on := 30, ground := Ground.textOnly Departure.lateStores }, { on := 31, ground := Ground.textOnly Departure.lateStores }, { on := 32, ground := Ground.textOnly Departure.lateStores }, { on := 33, ground := Ground.phase }], guard := none }) (v := ?_) rfl (by kernel_rfl) (by kernel_rfl) (by kernel_rfl) (fun _ _ _ h => h) (Or.inl ⟨by rfl, ?_⟩) ?_
  rotate_left
  · intro w hSw
    clear hSw
    go_simp
    all_goals with_reducible rfl
  simp only [Act.put, List.setIfInBounds_toArray, List.set_cons_zero, List.set_cons_succ]
  refine wpAnyD_takeW (i := 35) (oi := { dst := some 81, op := Op.fieldAddr 61 (Operand.tmp 80) 5, type := 0, pos := "ref.go:145", after := #[{ on := 34, ground := Ground.data }, { on := 0, ground := Ground.phase }, { on := 1, ground := Ground.textOnly Departure.lateStores }, { on := 2, ground := Ground.textOnly Departure.lateStores }, { on := 3, ground := Ground.textOnly Departure.lateStores }, { on := 4, ground := Ground.phase }, { on := 5, ground := Ground.phase }, { on := 6, ground := Ground.phase }, { on := 7, ground := Ground.phase }, { on := 8, ground := Ground.phase }, { on := 9, ground := Ground.phase }, { on := 10, ground := Ground.phase }, { on := 11, ground := Ground.phase }, { on := 12, ground := Ground.textOnly Departure.lateStores }, { on := 13, ground := Ground.textOnly Departure.lateStoresUnsure }, { on := 14, ground := Ground.textOnly Departure.lateStoresUnsure }, { on := 15, ground := Ground.phase }, { on := 16, ground := Ground.textOnly Departure.lateStores }, { on := 17, ground := Ground.textOnly Departure.lateStores }, { on := 18, ground := Ground.phase }, { on := 19, ground := Ground.textOnly Departure.lateStores }, { on := 20, ground := Ground.textOnly Departure.lateStoresUnsure }, { on := 21, ground := Ground.textOnly Departure.lateStoresUnsure }, { on := 22, ground := Ground.phase }, { on := 23, ground := Ground.textOnly Departure.lateStores }, { on := 24, ground := Ground.textOnly Departure.lateStores }, { on := 25, ground := Ground.phase }, { on := 26, ground := Ground.textOnly Departure.lateStores }, { on := 27, ground := Ground.textOnly Departure.lateStoresUnsure }, { on := 28, ground := Ground.textOnly Departure.lateStoresUnsure }, { on := 29, ground := Ground.phase }, { on := 30, ground := Ground.textOnly Departure.lateStores }, { on := 31, ground := Ground.textOnly Departure.lateStores }, { on := 32, ground := Ground.textOnly Departure.lateStores }, { on := 33, ground := Ground.phase }], guard := none }) (v := ?_) rfl (by kernel_rfl) (by kernel_rfl) (by kernel_rfl) (fun _ _ _ h => h) (Or.inl ⟨by rfl, ?_⟩) ?_
  rotate_left
  · intro w hSw
    clear hSw
    go_simp
    all_goals with_reducible rfl
  simp only [Act.put, List.setIfInBounds_toArray, List.set_cons_zero, List.set_cons_succ]
  refine wpAnyD_one (i := 36) (o := { dst := none, op := Op.store 3 (Operand.tmp 81) (Operand.tmp 57), type := 0, pos := "ref.go:145", after := #[{ on := 35, ground := Ground.data }, { on := 11, ground := Ground.data }, { on := 33, ground := Ground.chain }, { on := 0, ground := Ground.phase }, { on := 1, ground := Ground.textOnly Departure.lateStores }, { on := 2, ground := Ground.textOnly Departure.lateStores }, { on := 3, ground := Ground.textOnly Departure.lateStores }, { on := 4, ground := Ground.phase }, { on := 5, ground := Ground.phase }, { on := 6, ground := Ground.phase }, { on := 7, ground := Ground.phase }, { on := 8, ground := Ground.phase }, { on := 9, ground := Ground.phase }, { on := 10, ground := Ground.phase }, { on := 11, ground := Ground.phase }, { on := 12, ground := Ground.textOnly Departure.lateStores }, { on := 13, ground := Ground.textOnly Departure.lateStoresUnsure }, { on := 14, ground := Ground.textOnly Departure.lateStoresUnsure }, { on := 15, ground := Ground.phase }, { on := 16, ground := Ground.textOnly Departure.lateStores }, { on := 17, ground := Ground.textOnly Departure.lateStores }, { on := 18, ground := Ground.phase }, { on := 19, ground := Ground.textOnly Departure.lateStores }, { on := 20, ground := Ground.textOnly Departure.lateStoresUnsure }, { on := 21, ground := Ground.textOnly Departure.lateStoresUnsure }, { on := 22, ground := Ground.phase }, { on := 23, ground := Ground.textOnly Departure.lateStores }, { on := 24, ground := Ground.textOnly Departure.lateStores }, { on := 25, ground := Ground.phase }, { on := 26, ground := Ground.textOnly Departure.lateStores }, { on := 27, ground := Ground.textOnly Departure.lateStoresUnsure }, { on := 28, ground := Ground.textOnly Departure.lateStoresUnsure }, { on := 29, ground := Ground.phase }, { on := 30, ground := Ground.textOnly Departure.lateStores }, { on := 31, ground := Ground.textOnly Departure.lateStores }, { on := 32, ground := Ground.textOnly Departure.lateStores }, { on := 33, ground := Ground.phase }], guard := none }) (by kernel_rfl) rfl (fun K hK => ?_)
  go_simp
  refine hK _ _ (fun h _ => absurd h (by decide)) ?_
  clear hK K
  try simp only [Act.put, List.setIfInBounds_toArray, List.set_cons_zero, List.set_cons_succ]
  refine wpAnyD_takeW (i := 37) (oi := { dst := some 82, op := Op.nilCheck (Operand.tmp 47), type := 0, pos := "ref.go:145", after := #[{ on := 1, ground := Ground.data }, { on := 0, ground := Ground.phase }, { on := 1, ground := Ground.phase }, { on := 2, ground := Ground.textOnly Departure.lateStores }, { on := 3, ground := Ground.textOnly Departure.lateStores }, { on := 4, ground := Ground.phase }, { on := 5, ground := Ground.phase }, { on := 6, ground := Ground.phase }, { on := 7, ground := Ground.phase }, { on := 8, ground := Ground.phase }, { on := 9, ground := Ground.phase }, { on := 10, ground := Ground.phase }, { on := 11, ground := Ground.phase }, { on := 12, ground := Ground.phase }, { on := 13, ground := Ground.phase }, { on := 14, ground := Ground.phase }, { on := 15, ground := Ground.phase }, { on := 16, ground := Ground.phase }, { on := 17, ground := Ground.phase }, { on := 18, ground := Ground.phase }, { on := 19, ground := Ground.textOnly Departure.lateStores }, { on := 20, ground := Ground.textOnly Departure.lateStoresUnsure }, { on := 21, ground := Ground.textOnly Departure.lateStoresUnsure }, { on := 22, ground := Ground.phase }, { on := 23, ground := Ground.textOnly Departure.lateStores }, { on := 24, ground := Ground.textOnly Departure.lateStores }, { on := 25, ground := Ground.phase }, { on := 26, ground := Ground.textOnly Departure.lateStores }, { on := 27, ground := Ground.textOnly Departure.lateStoresUnsure }, { on := 28, ground := Ground.textOnly Departure.lateStoresUnsure }, { on := 29, ground := Ground.phase }, { on := 30, ground := Ground.textOnly Departure.lateStores }, { on := 31, ground := Ground.textOnly Departure.lateStores }, { on := 32, ground := Ground.textOnly Departure.lateStores }, { on := 33, ground := Ground.phase }, { on := 34, ground := Ground.phase }, { on := 35, ground := Ground.phase }, { on := 36, ground := Ground.phase }], guard := none }) (v := ?_) rfl (by kernel_rfl) (by kernel_rfl) (by kernel_rfl) (fun _ _ _ h => h) (Or.inl ⟨by rfl, ?_⟩) ?_
  rotate_left
  · intro w hSw
    clear hSw
    go_simp
    all_goals with_reducible rfl
  simp only [Act.put, List.setIfInBounds_toArray, List.set_cons_zero, List.set_cons_succ]
  refine wpAnyD_takeW (i := 38) (oi := { dst := some 83, op := Op.fieldAddr 61 (Operand.tmp 82) 6, type := 0, pos := "ref.go:145", after := #[{ on := 37, ground := Ground.data }, { on := 0, ground := Ground.phase }, { on := 1, ground := Ground.phase }, { on := 2, ground := Ground.textOnly Departure.lateStores }, { on := 3, ground := Ground.textOnly Departure.lateStores }, { on := 4, ground := Ground.phase }, { on := 5, ground := Ground.phase }, { on := 6, ground := Ground.phase }, { on := 7, ground := Ground.phase }, { on := 8, ground := Ground.phase }, { on := 9, ground := Ground.phase }, { on := 10, ground := Ground.phase }, { on := 11, ground := Ground.phase }, { on := 12, ground := Ground.phase }, { on := 13, ground := Ground.phase }, { on := 14, ground := Ground.phase }, { on := 15, ground := Ground.phase }, { on := 16, ground := Ground.phase }, { on := 17, ground := Ground.phase }, { on := 18, ground := Ground.phase }, { on := 19, ground := Ground.textOnly Departure.lateStores }, { on := 20, ground := Ground.textOnly Departure.lateStoresUnsure }, { on := 21, ground := Ground.textOnly Departure.lateStoresUnsure }, { on := 22, ground := Ground.phase }, { on := 23, ground := Ground.textOnly Departure.lateStores }, { on := 24, ground := Ground.textOnly Departure.lateStores }, { on := 25, ground := Ground.phase }, { on := 26, ground := Ground.textOnly Departure.lateStores }, { on := 27, ground := Ground.textOnly Departure.lateStoresUnsure }, { on := 28, ground := Ground.textOnly Departure.lateStoresUnsure }, { on := 29, ground := Ground.phase }, { on := 30, ground := Ground.textOnly Departure.lateStores }, { on := 31, ground := Ground.textOnly Departure.lateStores }, { on := 32, ground := Ground.textOnly Departure.lateStores }, { on := 33, ground := Ground.phase }, { on := 34, ground := Ground.phase }, { on := 35, ground := Ground.phase }, { on := 36, ground := Ground.phase }], guard := none }) (v := ?_) rfl (by kernel_rfl) (by kernel_rfl) (by kernel_rfl) (fun _ _ _ h => h) (Or.inl ⟨by rfl, ?_⟩) ?_
  rotate_left
  · intro w hSw
    clear hSw
    go_simp
    all_goals with_reducible rfl
  simp only [Act.put, List.setIfInBounds_toArray, List.set_cons_zero, List.set_cons_succ]
  refine wpAnyD_one (i := 39) (o := { dst := none, op := Op.store 3 (Operand.tmp 83) (Operand.tmp 64), type := 0, pos := "ref.go:145", after := #[{ on := 38, ground := Ground.data }, { on := 18, ground := Ground.data }, { on := 36, ground := Ground.chain }, { on := 0, ground := Ground.phase }, { on := 1, ground := Ground.phase }, { on := 2, ground := Ground.textOnly Departure.lateStores }, { on := 3, ground := Ground.textOnly Departure.lateStores }, { on := 4, ground := Ground.phase }, { on := 5, ground := Ground.phase }, { on := 6, ground := Ground.phase }, { on := 7, ground := Ground.phase }, { on := 8, ground := Ground.phase }, { on := 9, ground := Ground.phase }, { on := 10, ground := Ground.phase }, { on := 11, ground := Ground.phase }, { on := 12, ground := Ground.phase }, { on := 13, ground := Ground.phase }, { on := 14, ground := Ground.phase }, { on := 15, ground := Ground.phase }, { on := 16, ground := Ground.phase }, { on := 17, ground := Ground.phase }, { on := 18, ground := Ground.phase }, { on := 19, ground := Ground.textOnly Departure.lateStores }, { on := 20, ground := Ground.textOnly Departure.lateStoresUnsure }, { on := 21, ground := Ground.textOnly Departure.lateStoresUnsure }, { on := 22, ground := Ground.phase }, { on := 23, ground := Ground.textOnly Departure.lateStores }, { on := 24, ground := Ground.textOnly Departure.lateStores }, { on := 25, ground := Ground.phase }, { on := 26, ground := Ground.textOnly Departure.lateStores }, { on := 27, ground := Ground.textOnly Departure.lateStoresUnsure }, { on := 28, ground := Ground.textOnly Departure.lateStoresUnsure }, { on := 29, ground := Ground.phase }, { on := 30, ground := Ground.textOnly Departure.lateStores }, { on := 31, ground := Ground.textOnly Departure.lateStores }, { on := 32, ground := Ground.textOnly Departure.lateStores }, { on := 33, ground := Ground.phase }, { on := 34, ground := Ground.phase }, { on := 35, ground := Ground.phase }, { on := 36, ground := Ground.phase }], guard := none }) (by kernel_rfl) rfl (fun K hK => ?_)
  go_simp
  refine hK _ _ (fun h _ => absurd h (by decide)) ?_
  clear hK K
  try simp only [Act.put, List.setIfInBounds_toArray, List.set_cons_zero, List.set_cons_succ]
  refine wpAnyD_takeW (i := 40) (oi := { dst := some 84, op := Op.nilCheck (Operand.tmp 48), type := 0, pos := "ref.go:145", after := #[{ on := 2, ground := Ground.data }, { on := 0, ground := Ground.phase }, { on := 1, ground := Ground.phase }, { on := 2, ground := Ground.phase }, { on := 3, ground := Ground.textOnly Departure.lateStores }, { on := 4, ground := Ground.phase }, { on := 5, ground := Ground.phase }, { on := 6, ground := Ground.phase }, { on := 7, ground := Ground.phase }, { on := 8, ground := Ground.phase }, { on := 9, ground := Ground.phase }, { on := 10, ground := Ground.phase }, { on := 11, ground := Ground.phase }, { on := 12, ground := Ground.phase }, { on := 13, ground := Ground.phase }, { on := 14, ground := Ground.phase }, { on := 15, ground := Ground.phase }, { on := 16, ground := Ground.phase }, { on := 17, ground := Ground.phase }, { on := 18, ground := Ground.phase }, { on := 19, ground := Ground.phase }, { on := 20, ground := Ground.phase }, { on := 21, ground := Ground.phase }, { on := 22, ground := Ground.phase }, { on := 23, ground := Ground.phase }, { on := 24, ground := Ground.phase }, { on := 25, ground := Ground.phase }, { on := 26, ground := Ground.textOnly Departure.lateStores }, { on := 27, ground := Ground.textOnly Departure.lateStoresUnsure }, { on := 28, ground := Ground.textOnly Departure.lateStoresUnsure }, { on := 29, ground := Ground.phase }, { on := 30, ground := Ground.textOnly Departure.lateStores }, { on := 31, ground := Ground.textOnly Departure.lateStores }, { on := 32, ground := Ground.textOnly Departure.lateStores }, { on := 33, ground := Ground.phase }, { on := 34, ground := Ground.phase }, { on := 35, ground := Ground.phase }, { on := 36, ground := Ground.phase }, { on := 37, ground := Ground.phase }, { on := 38, ground := Ground.phase }, { on := 39, ground := Ground.phase }], guard := none }) (v := ?_) rfl (by kernel_rfl) (by kernel_rfl) (by kernel_rfl) (fun _ _ _ h => h) (Or.inl ⟨by rfl, ?_⟩) ?_
  rotate_left
  · intro w hSw
    clear hSw
    go_simp
    all_goals with_reducible rfl
  simp only [Act.put, List.setIfInBounds_toArray, List.set_cons_zero, List.set_cons_succ]
  refine wpAnyD_takeW (i := 41) (oi := { dst := some 85, op := Op.fieldAddr 61 (Operand.tmp 84) 7, type := 0, pos := "ref.go:145", after := #[{ on := 40, ground := Ground.data }, { on := 0, ground := Ground.phase }, { on := 1, ground := Ground.phase }, { on := 2, ground := Ground.phase }, { on := 3, ground := Ground.textOnly Departure.lateStores }, { on := 4, ground := Ground.phase }, { on := 5, ground := Ground.phase }, { on := 6, ground := Ground.phase }, { on := 7, ground := Ground.phase }, { on := 8, ground := Ground.phase }, { on := 9, ground := Ground.phase }, { on := 10, ground := Ground.phase }, { on := 11, ground := Ground.phase }, { on := 12, ground := Ground.phase }, { on := 13, ground := Ground.phase }, { on := 14, ground := Ground.phase }, { on := 15, ground := Ground.phase }, { on := 16, ground := Ground.phase }, { on := 17, ground := Ground.phase }, { on := 18, ground := Ground.phase }, { on := 19, ground := Ground.phase }, { on := 20, ground := Ground.phase }, { on := 21, ground := Ground.phase }, { on := 22, ground := Ground.phase }, { on := 23, ground := Ground.phase }, { on := 24, ground := Ground.phase }, { on := 25, ground := Ground.phase }, { on := 26, ground := Ground.textOnly Departure.lateStores }, { on := 27, ground := Ground.textOnly Departure.lateStoresUnsure }, { on := 28, ground := Ground.textOnly Departure.lateStoresUnsure }, { on := 29, ground := Ground.phase }, { on := 30, ground := Ground.textOnly Departure.lateStores }, { on := 31, ground := Ground.textOnly Departure.lateStores }, { on := 32, ground := Ground.textOnly Departure.lateStores }, { on := 33, ground := Ground.phase }, { on := 34, ground := Ground.phase }, { on := 35, ground := Ground.phase }, { on := 36, ground := Ground.phase }, { on := 37, ground := Ground.phase }, { on := 38, ground := Ground.phase }, { on := 39, ground := Ground.phase }], guard := none }) (v := ?_) rfl (by kernel_rfl) (by kernel_rfl) (by kernel_rfl) (fun _ _ _ h => h) (Or.inl ⟨by rfl, ?_⟩) ?_
  rotate_left
  · intro w hSw
    clear hSw
    go_simp
    all_goals with_reducible rfl
  simp only [Act.put, List.setIfInBounds_toArray, List.set_cons_zero, List.set_cons_succ]
  refine wpAnyD_one (i := 42) (o := { dst := none, op := Op.store 3 (Operand.tmp 85) (Operand.tmp 71), type := 0, pos := "ref.go:145", after := #[{ on := 41, ground := Ground.data }, { on := 25, ground := Ground.data }, { on := 39, ground := Ground.chain }, { on := 0, ground := Ground.phase }, { on := 1, ground := Ground.phase }, { on := 2, ground := Ground.phase }, { on := 3, ground := Ground.textOnly Departure.lateStores }, { on := 4, ground := Ground.phase }, { on := 5, ground := Ground.phase }, { on := 6, ground := Ground.phase }, { on := 7, ground := Ground.phase }, { on := 8, ground := Ground.phase }, { on := 9, ground := Ground.phase }, { on := 10, ground := Ground.phase }, { on := 11, ground := Ground.phase }, { on := 12, ground := Ground.phase }, { on := 13, ground := Ground.phase }, { on := 14, ground := Ground.phase }, { on := 15, ground := Ground.phase }, { on := 16, ground := Ground.phase }, { on := 17, ground := Ground.phase }, { on := 18, ground := Ground.phase }, { on := 19, ground := Ground.phase }, { on := 20, ground := Ground.phase }, { on := 21, ground := Ground.phase }, { on := 22, ground := Ground.phase }, { on := 23, ground := Ground.phase }, { on := 24, ground := Ground.phase }, { on := 25, ground := Ground.phase }, { on := 26, ground := Ground.textOnly Departure.lateStores }, { on := 27, ground := Ground.textOnly Departure.lateStoresUnsure }, { on := 28, ground := Ground.textOnly Departure.lateStoresUnsure }, { on := 29, ground := Ground.phase }, { on := 30, ground := Ground.textOnly Departure.lateStores }, { on := 31, ground := Ground.textOnly Departure.lateStores }, { on := 32, ground := Ground.textOnly Departure.lateStores }, { on := 33, ground := Ground.phase }, { on := 34, ground := Ground.phase }, { on := 35, ground := Ground.phase }, { on := 36, ground := Ground.phase }, { on := 37, ground := Ground.phase }, { on := 38, ground := Ground.phase }, { on := 39, ground := Ground.phase }], guard := none }) (by kernel_rfl) rfl (fun K hK => ?_)
  go_simp
  refine hK _ _ (fun h _ => absurd h (by decide)) ?_
  clear hK K
  try simp only [Act.put, List.setIfInBounds_toArray, List.set_cons_zero, List.set_cons_succ]
  refine wpAnyD_takeW (i := 43) (oi := { dst := some 86, op := Op.nilCheck (Operand.tmp 49), type := 0, pos := "ref.go:145", after := #[{ on := 3, ground := Ground.data }, { on := 0, ground := Ground.phase }, { on := 1, ground := Ground.phase }, { on := 2, ground := Ground.phase }, { on := 3, ground := Ground.phase }, { on := 4, ground := Ground.phase }, { on := 5, ground := Ground.phase }, { on := 6, ground := Ground.phase }, { on := 7, ground := Ground.phase }, { on := 8, ground := Ground.phase }, { on := 9, ground := Ground.phase }, { on := 10, ground := Ground.phase }, { on := 11, ground := Ground.phase }, { on := 12, ground := Ground.phase }, { on := 13, ground := Ground.phase }, { on := 14, ground := Ground.phase }, { on := 15, ground := Ground.phase }, { on := 16, ground := Ground.phase }, { on := 17, ground := Ground.phase }, { on := 18, ground := Ground.phase }, { on := 19, ground := Ground.phase }, { on := 20, ground := Ground.phase }, { on := 21, ground := Ground.phase }, { on := 22, ground := Ground.phase }, { on := 23, ground := Ground.phase }, { on := 24, ground := Ground.phase }, { on := 25, ground := Ground.phase }, { on := 26, ground := Ground.phase }, { on := 27, ground := Ground.phase }, { on := 28, ground := Ground.phase }, { on := 29, ground := Ground.phase }, { on := 30, ground := Ground.phase }, { on := 31, ground := Ground.phase }, { on := 32, ground := Ground.phase }, { on := 33, ground := Ground.phase }, { on := 34, ground := Ground.phase }, { on := 35, ground := Ground.phase }, { on := 36, ground := Ground.phase }, { on := 37, ground := Ground.phase }, { on := 38, ground := Ground.phase }, { on := 39, ground := Ground.phase }, { on := 40, ground := Ground.phase }, { on := 41, ground := Ground.phase }, { on := 42, ground := Ground.phase }], guard := none }) (v := ?_) rfl (by kernel_rfl) (by kernel_rfl) (by kernel_rfl) (fun _ _ _ h => h) (Or.inl ⟨by rfl, ?_⟩) ?_
  rotate_left
  · intro w hSw
    clear hSw
    go_simp
    all_goals with_reducible rfl
  simp only [Act.put, List.setIfInBounds_toArray, List.set_cons_zero, List.set_cons_succ]
  refine wpAnyD_takeW (i := 44) (oi := { dst := some 87, op := Op.fieldAddr 61 (Operand.tmp 86) 8, type := 0, pos := "ref.go:145", after := #[{ on := 43, ground := Ground.data }, { on := 0, ground := Ground.phase }, { on := 1, ground := Ground.phase }, { on := 2, ground := Ground.phase }, { on := 3, ground := Ground.phase }, { on := 4, ground := Ground.phase }, { on := 5, ground := Ground.phase }, { on := 6, ground := Ground.phase }, { on := 7, ground := Ground.phase }, { on := 8, ground := Ground.phase }, { on := 9, ground := Ground.phase }, { on := 10, ground := Ground.phase }, { on := 11, ground := Ground.phase }, { on := 12, ground := Ground.phase }, { on := 13, ground := Ground.phase }, { on := 14, ground := Ground.phase }, { on := 15, ground := Ground.phase }, { on := 16, ground := Ground.phase }, { on := 17, ground := Ground.phase }, { on := 18, ground := Ground.phase }, { on := 19, ground := Ground.phase }, { on := 20, ground := Ground.phase }, { on := 21, ground := Ground.phase }, { on := 22, ground := Ground.phase }, { on := 23, ground := Ground.phase }, { on := 24, ground := Ground.phase }, { on := 25, ground := Ground.phase }, { on := 26, ground := Ground.phase }, { on := 27, ground := Ground.phase }, { on := 28, ground := Ground.phase }, { on := 29, ground := Ground.phase }, { on := 30, ground := Ground.phase }, { on := 31, ground := Ground.phase }, { on := 32, ground := Ground.phase }, { on := 33, ground := Ground.phase }, { on := 34, ground := Ground.phase }, { on := 35, ground := Ground.phase }, { on := 36, ground := Ground.phase }, { on := 37, ground := Ground.phase }, { on := 38, ground := Ground.phase }, { on := 39, ground := Ground.phase }, { on := 40, ground := Ground.phase }, { on := 41, ground := Ground.phase }, { on := 42, ground := Ground.phase }], guard := none }) (v := ?_) rfl (by kernel_rfl) (by kernel_rfl) (by kernel_rfl) (fun _ _ _ h => h) (Or.inl ⟨by rfl, ?_⟩) ?_
  rotate_left
  · intro w hSw
    clear hSw
    go_simp
    all_goals with_reducible rfl
  simp only [Act.put, List.setIfInBounds_toArray, List.set_cons_zero, List.set_cons_succ]
  refine wpAnyD_one (i := 45) (o := { dst := none, op := Op.store 3 (Operand.tmp 87) (Operand.tmp 79), type := 0, pos := "ref.go:145", after := #[{ on := 44, ground := Ground.data }, { on := 33, ground := Ground.data }, { on := 42, ground := Ground.chain }, { on := 0, ground := Ground.phase }, { on := 1, ground := Ground.phase }, { on := 2, ground := Ground.phase }, { on := 3, ground := Ground.phase }, { on := 4, ground := Ground.phase }, { on := 5, ground := Ground.phase }, { on := 6, ground := Ground.phase }, { on := 7, ground := Ground.phase }, { on := 8, ground := Ground.phase }, { on := 9, ground := Ground.phase }, { on := 10, ground := Ground.phase }, { on := 11, ground := Ground.phase }, { on := 12, ground := Ground.phase }, { on := 13, ground := Ground.phase }, { on := 14, ground := Ground.phase }, { on := 15, ground := Ground.phase }, { on := 16, ground := Ground.phase }, { on := 17, ground := Ground.phase }, { on := 18, ground := Ground.phase }, { on := 19, ground := Ground.phase }, { on := 20, ground := Ground.phase }, { on := 21, ground := Ground.phase }, { on := 22, ground := Ground.phase }, { on := 23, ground := Ground.phase }, { on := 24, ground := Ground.phase }, { on := 25, ground := Ground.phase }, { on := 26, ground := Ground.phase }, { on := 27, ground := Ground.phase }, { on := 28, ground := Ground.phase }, { on := 29, ground := Ground.phase }, { on := 30, ground := Ground.phase }, { on := 31, ground := Ground.phase }, { on := 32, ground := Ground.phase }, { on := 33, ground := Ground.phase }, { on := 34, ground := Ground.phase }, { on := 35, ground := Ground.phase }, { on := 36, ground := Ground.phase }, { on := 37, ground := Ground.phase }, { on := 38, ground := Ground.phase }, { on := 39, ground := Ground.phase }, { on := 40, ground := Ground.phase }, { on := 41, ground := Ground.phase }, { on := 42, ground := Ground.phase }], guard := none }) (by kernel_rfl) rfl (fun K hK => ?_)
  go_simp
  refine hK _ _ (fun h _ => absurd h (by decide)) ?_
  clear hK K
  try simp only [Act.put, List.setIfInBounds_toArray, List.set_cons_zero, List.set_cons_succ]
  refine wpAnyD_done (by kernel_rfl) ?_ _
  obtain ⟨w8, hw8⟩ : ∃ y : World, y = (((w7.setCell ⟨z3.bp, 5, none⟩ (.int .i64 (pt : Int))).setCell ⟨z3.bp, 6, none⟩ (.int .i64 1)).setCell ⟨z3.bp, 7, none⟩ (.int .i64 ((pt : Int) + (n : Int)))).setCell ⟨z3.bp, 8, none⟩ (.int .i64 0) := ⟨_, rfl⟩
  rw [← hw8] at HX ⊢
  have HX8 := hide (show YAt W w8 z3 (L ++ charsOf s) (lgM tick n0) (yD z3 pt (pt + n) tick r) p q X from by
    have h9 := HX.out
    rw [show (pt : Int) + (n : Int) = ((pt + n : Nat) : Int) by omega] at h9
    exact h9)
  have c16 : w8.cell? ⟨z3.bp, 16, none⟩ = some (.slice none 0 0) := (HX8.out.blk.cell 16).trans rfl
  clear hw8 HX hS HB0 HON f5 f6 f7 f8
  go_wp2_with fail
  go_loopw [9] (fun iv wr => iv = .int .i64 0 ∧ wr = w8) (fun _ _ => 0)
  case atStart => exact ⟨rfl, rfl⟩
  case round =>
    obtain ⟨rfl, rfl⟩ := hrel
    have HLG := rlog_any (n0 := n0) (n := n) HX8.out.log HN0L.out (by have := HP1.out; have := HPT.out; omega) (by have := HN1.out; omega)
    rw [← HPT.out, show ((pt + n : Nat) : Int) = (pt : Int) + (n : Int) by omega] at HLG
    have HLG := hide HLG
    go_wp2_with fail
    refine Calls.mono HLG.out ?_
    rintro e w9 ⟨rfl, lb9, hlb9, h9⟩
    obtain ⟨z9, hz9⟩ : ∃ z9 : Yb, z9 = { z3 with lb := lb9 } := ⟨_, rfl⟩
    have h9' : YAt W w9 z9 (L ++ charsOf s) (lg3 1 (pt + n)) (yD z9 pt (pt + n) tick r) p q X := by
      have h8 := HX8.out.noted h9
      rw [← hz9] at h8
      have e1 : yD z9 pt (pt + n) tick r = yD z3 pt (pt + n) tick r := by rw [hz9]; unfold yD; rw [hlb9]
      rw [e1]
      exact h8
    have hb9 : z9.bp = z3.bp := by rw [hz9]
    have HBP := hide (hb9.trans HBP.out)
    rw [← hb9]
    have H9 := hide h9'
    clear h9 hz9 hlb9 h9' hb9 HLG c16
    have c14 : w9.cell? ⟨z9.bp, 14, none⟩ = some (.int .i64 (tick : Int)) := (H9.out.blk.cell 14).trans rfl
    have f14 := H9.out.blk.frozen 14
    have H10 := hide (H9.out.set_ 14 (.int .i64 ((tick : Int) + 1)))
    go_wp2_with fail
    refine bodyPost_end (results_none rfl _ _ _) rfl ?_
    refine ⟨rfl, z9, HBP.out, ?_⟩
    have h9 := H10.out
    rw [← HN.out, ← HN0.out, ← HPT.out]
    exact h9
set_option maxRecDepth 100000 in
set_option maxHeartbeats 4000000 in
theorem yput_none (s : ByteArray) (hs : s.size ≤ 300) (hz : lenS s = 0) (bp : Nat) (a : Int) : Calls Tryz.prog 78 #[.pointer (some ⟨bp, 0, none⟩), .int .i64 a, .string s, .bool false] w fun e w' => e = .returned (.tuple #[]) ∧ Below w.heap.size w w' := by
  have HL := reflen_any s w (by omega)
  rw [hz] at HL
  have HL := hide HL
  clear hs hz
  go_enter Tryz.func78, Tryz.ntmps78
  go_wp2_with fail
  refine Calls.mono HL.out ?_
  rintro e w1 ⟨rfl, b1⟩
  have HB1 := hide b1
  clear b1
  go_wp2_with fail
  refine bodyPost_ret (results_none rfl _ _ _) rfl ?_
  exact ⟨rfl, HB1.out⟩
end
end Go.Proofs.YtnbhejbpofjamaaGreatDoor
