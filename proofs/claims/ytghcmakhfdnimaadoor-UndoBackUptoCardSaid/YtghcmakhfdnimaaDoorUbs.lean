/- The reference: characters written as bytes; Slice, All. No condition but those written. -/
import Derived.Test.YtghcmakhfdnimaaDoorUbr
import Derived.Laws.BytesArg
namespace Go.Proofs.YtghcmakhfdnimaaDoor
open Go.RowKit

/-- The cells of bytes. -/
def u8s (l : List UInt8) : List Value := l.map fun b => Value.int .u8 (b.toNat : Int)
theorem u8s_len (l : List UInt8) : (u8s l).length = l.length := by simp [u8s]
theorem u8s_append (a b : List UInt8) : u8s (a ++ b) = u8s a ++ u8s b := by simp [u8s]
theorem u8s_one (l : List UInt8) : ∀ u ∈ u8s l, u.oneCell' = true := by
  intro u hu
  obtain ⟨c, _, rfl⟩ := List.mem_map.1 hu
  rfl
theorem u8_byt {n : Nat} (h : n < 256) : Value.int .u8 ((byt n).toNat : Int) = .int .u8 (n : Int) := by rw [byt_nat h]
theorem Rd.belowF {w w' : World} {v : Value} {k n : Nat} {xs : List Value} (h : Rd w v k n xs) (hb : Below w.heap.size w w') : Rd w' v k n xs := h.only (Only.of_below hb) fun _ _ f => f
theorem info_u8 : (Tryd.prog.info? 5).map (fun i => (i.zero, i.size, i.bytes)) = some (some (.int .u8 0), 1, 1) := by kernel_rfl
theorem rd_fresh (w : World) (e : TypeId) (xs : Array Value) (n : Nat) (hn : xs.size = n) (hm : n ≤ 1000) : Rd (w.alloc (.cells xs e)) (.slice (some ⟨w.heap.size, 0, none⟩) n n) 1 n xs.toList := by
  subst hn
  have h := Sl.new w e 1 xs xs.size xs.size (Nat.le_refl _) (by unfold maxLen; omega) (by omega)
  have h2 := h.rd
  rwa [List.take_of_length_le (by simp)] at h2
theorem isChar_ok {c : Nat} (h : okc c) : isChar (c : Int) = true := by
  unfold okc at h
  unfold isChar
  simp
  omega
set_option maxRecDepth 100000 in
set_option maxHeartbeats 4000000 in
/-- A string out of bytes. -/
theorem conv_str {w : World} {v : Value} {l : List UInt8} (h : Sl w 5 1 v l.length (u8s l)) : (convert 97 9 v).run Tryd.prog w = .ok (.string ⟨l.toArray⟩) w := by
  rcases h.2 with ⟨rfl, hn⟩ | ⟨g, off, cap, cs, rfl, _⟩
  · have hl : l = [] := List.eq_nil_of_length_eq_zero hn
    subst hl
    exact run_convert_bytes_nil w 97 5 Tryd.underlying97 Tryd.underlying5 0 0 9 Tryd.underlying9
  · obtain ⟨A', c', e, _, hc⟩ := h.rd
    injection e with e1 _ _
    have := run_convert_bytes_arg (P := Tryd.prog) w 97 5 Tryd.underlying97 Tryd.underlying5 g off l.length cap (l.map fun b => (b.toNat : Int)) (by simp) (fun i hi => by
      obtain ⟨b, o, e2, h2⟩ := hc (by omega)
      rw [← e1] at e2
      injection e2 with e2
      injection e2 with e3 e4
      subst e3 e4
      refine h2 i _ ?_
      simp [u8s, List.getElem?_eq_getElem hi, List.getD]) 9 Tryd.underlying9
    rw [this]
    congr 2
    unfold strOfNums
    congr 2
    rw [List.map_map]
    conv => rhs; rw [← List.map_id l]
    refine List.map_congr_left fun b _ => ?_
    simp
set_option maxRecDepth 100000 in
set_option maxHeartbeats 4000000 in
theorem bytes_1 (c : Nat) (h1 : c < 128) (w : World) : Calls Tryd.prog 65 #[.int .i64 (c : Int)] w fun e w' => e = .returned (.slice (some ⟨w.heap.size, 0, none⟩) 1 1) ∧ w' = w.alloc (.cells #[.int .u8 (c : Int)] 5) := by
  have y1 : decide ((c : Int) < 128) = true := decide_eq_true (by omega)
  have y2 : decide (c < 128) = true := decide_eq_true h1
  go_enter Tryd.func65, Tryd.ntmps65
  go_wp2
  go_ret
  exact ⟨rfl, rfl⟩
set_option maxRecDepth 100000 in
set_option maxHeartbeats 4000000 in
theorem bytes_2 (c : Nat) (h0 : 128 ≤ c) (h1 : c < 2048) (w : World) : Calls Tryd.prog 65 #[.int .i64 (c : Int)] w fun e w' => e = .returned (.slice (some ⟨w.heap.size, 0, none⟩) 2 2) ∧ w' = w.alloc (.cells #[.int .u8 (192 + ((c : Int) / 64)), .int .u8 (128 + ((c : Int) % 64))] 5) := by
  have y1 : decide ((c : Int) < 128) = false := decide_eq_false (by omega)
  have y2 : decide (c < 128) = false := decide_eq_false (by omega)
  have y3 : decide ((c : Int) < 2048) = true := decide_eq_true (by omega)
  have y4 : decide (c < 2048) = true := decide_eq_true (by omega)
  go_enter Tryd.func65, Tryd.ntmps65
  go_wp2
  go_ret
  exact ⟨rfl, rfl⟩
set_option maxRecDepth 100000 in
set_option maxHeartbeats 4000000 in
theorem bytes_3 (c : Nat) (h0 : 2048 ≤ c) (h1 : c < 65536) (w : World) : Calls Tryd.prog 65 #[.int .i64 (c : Int)] w fun e w' => e = .returned (.slice (some ⟨w.heap.size, 0, none⟩) 3 3) ∧ w' = w.alloc (.cells #[.int .u8 (224 + ((c : Int) / 4096)), .int .u8 (128 + ((c : Int) / 64 % 64)), .int .u8 (128 + ((c : Int) % 64))] 5) := by
  have y1 : decide ((c : Int) < 128) = false := decide_eq_false (by omega)
  have y2 : decide (c < 128) = false := decide_eq_false (by omega)
  have y3 : decide ((c : Int) < 2048) = false := decide_eq_false (by omega)
  have y4 : decide (c < 2048) = false := decide_eq_false (by omega)
  have y5 : decide ((c : Int) < 65536) = true := decide_eq_true (by omega)
  have y6 : decide (c < 65536) = true := decide_eq_true (by omega)
  go_enter Tryd.func65, Tryd.ntmps65
  go_wp2
  go_ret
  exact ⟨rfl, rfl⟩
set_option maxRecDepth 100000 in
set_option maxHeartbeats 4000000 in
theorem bytes_4 (c : Nat) (h0 : 65536 ≤ c) (h1 : c < 1114112) (w : World) : Calls Tryd.prog 65 #[.int .i64 (c : Int)] w fun e w' => e = .returned (.slice (some ⟨w.heap.size, 0, none⟩) 4 4) ∧ w' = w.alloc (.cells #[.int .u8 (240 + ((c : Int) / 262144)), .int .u8 (128 + ((c : Int) / 4096 % 64)), .int .u8 (128 + ((c : Int) / 64 % 64)), .int .u8 (128 + ((c : Int) % 64))] 5) := by
  have y1 : decide ((c : Int) < 128) = false := decide_eq_false (by omega)
  have y2 : decide (c < 128) = false := decide_eq_false (by omega)
  have y3 : decide ((c : Int) < 2048) = false := decide_eq_false (by omega)
  have y4 : decide (c < 2048) = false := decide_eq_false (by omega)
  have y5 : decide ((c : Int) < 65536) = false := decide_eq_false (by omega)
  have y6 : decide (c < 65536) = false := decide_eq_false (by omega)
  go_enter Tryd.func65, Tryd.ntmps65
  go_wp2
  go_ret
  exact ⟨rfl, rfl⟩
theorem u8_cell {n : Nat} {z : Int} (h : n < 256) (e : (n : Int) = z) : Value.int .u8 ((byt n).toNat : Int) = .int .u8 z := by rw [byt_nat h, e]
theorem enc_1 {c : Nat} (h : c < 128) : (encU c).length = 1 ∧ u8s (encU c) = [.int .u8 (c : Int)] := by
  have e : encU c = [byt c] := by unfold encU; rw [if_pos h]
  rw [e]
  refine ⟨rfl, ?_⟩
  unfold u8s
  simp only [List.map_cons, List.map_nil]
  rw [u8_cell (by omega) rfl]
theorem enc_2 {c : Nat} (h0 : 128 ≤ c) (h1 : c < 2048) : (encU c).length = 2 ∧ u8s (encU c) = [.int .u8 (192 + (c : Int) / 64), .int .u8 (128 + (c : Int) % 64)] := by
  have e : encU c = [byt (192 + c / 64), byt (128 + c % 64)] := by unfold encU; rw [if_neg (by omega), if_pos h1]
  rw [e]
  refine ⟨rfl, ?_⟩
  unfold u8s
  simp only [List.map_cons, List.map_nil]
  rw [u8_cell (z := 192 + (c : Int) / 64) (by omega) (by omega), u8_cell (z := 128 + (c : Int) % 64) (by omega) (by omega)]
theorem enc_3 {c : Nat} (h0 : 2048 ≤ c) (h1 : c < 65536) : (encU c).length = 3 ∧ u8s (encU c) = [.int .u8 (224 + (c : Int) / 4096), .int .u8 (128 + (c : Int) / 64 % 64), .int .u8 (128 + (c : Int) % 64)] := by
  have e : encU c = [byt (224 + c / 4096), byt (128 + c / 64 % 64), byt (128 + c % 64)] := by unfold encU; rw [if_neg (by omega), if_neg (by omega), if_pos h1]
  rw [e]
  refine ⟨rfl, ?_⟩
  unfold u8s
  simp only [List.map_cons, List.map_nil]
  rw [u8_cell (z := 224 + (c : Int) / 4096) (by omega) (by omega), u8_cell (z := 128 + (c : Int) / 64 % 64) (by omega) (by omega), u8_cell (z := 128 + (c : Int) % 64) (by omega) (by omega)]
theorem enc_4 {c : Nat} (h0 : 65536 ≤ c) (h1 : c < 1114112) : (encU c).length = 4 ∧ u8s (encU c) = [.int .u8 (240 + (c : Int) / 262144), .int .u8 (128 + (c : Int) / 4096 % 64), .int .u8 (128 + (c : Int) / 64 % 64), .int .u8 (128 + (c : Int) % 64)] := by
  have e : encU c = [byt (240 + c / 262144), byt (128 + c / 4096 % 64), byt (128 + c / 64 % 64), byt (128 + c % 64)] := by unfold encU; rw [if_neg (by omega), if_neg (by omega), if_neg (by omega)]
  rw [e]
  refine ⟨rfl, ?_⟩
  unfold u8s
  simp only [List.map_cons, List.map_nil]
  rw [u8_cell (z := 240 + (c : Int) / 262144) (by omega) (by omega), u8_cell (z := 128 + (c : Int) / 4096 % 64) (by omega) (by omega), u8_cell (z := 128 + (c : Int) / 64 % 64) (by omega) (by omega), u8_cell (z := 128 + (c : Int) % 64) (by omega) (by omega)]
theorem bytes_any (c : Nat) (h : okc c) (w : World) : Calls Tryd.prog 65 #[.int .i64 (c : Int)] w fun e w' => ∃ A m, e = .returned (.slice A (encU c).length m) ∧ Rd w' (.slice A (encU c).length m) 1 (encU c).length (u8s (encU c)) ∧ Below w.heap.size w w' := by
  have hc := h.1
  clear h
  by_cases h1 : c < 128
  · obtain ⟨e1, e2⟩ := enc_1 h1
    refine (bytes_1 c h1 w).mono ?_
    rintro e w' ⟨rfl, rfl⟩
    rw [e1, e2]
    exact ⟨_, _, rfl, rd_fresh w 5 _ 1 rfl (by omega), (Below.refl _ _).alloc (Nat.le_refl _) _⟩
  by_cases h2 : c < 2048
  · obtain ⟨e1, e2⟩ := enc_2 (c := c) (by omega) h2
    refine (bytes_2 c (by omega) h2 w).mono ?_
    rintro e w' ⟨rfl, rfl⟩
    rw [e1, e2]
    exact ⟨_, _, rfl, rd_fresh w 5 _ 2 rfl (by omega), (Below.refl _ _).alloc (Nat.le_refl _) _⟩
  by_cases h3 : c < 65536
  · obtain ⟨e1, e2⟩ := enc_3 (c := c) (by omega) h3
    refine (bytes_3 c (by omega) h3 w).mono ?_
    rintro e w' ⟨rfl, rfl⟩
    rw [e1, e2]
    exact ⟨_, _, rfl, rd_fresh w 5 _ 3 rfl (by omega), (Below.refl _ _).alloc (Nat.le_refl _) _⟩
  · obtain ⟨e1, e2⟩ := enc_4 (c := c) (by omega) (by omega)
    refine (bytes_4 c (by omega) (by omega) w).mono ?_
    rintro e w' ⟨rfl, rfl⟩
    rw [e1, e2]
    exact ⟨_, _, rfl, rd_fresh w 5 _ 4 rfl (by omega), (Below.refl _ _).alloc (Nat.le_refl _) _⟩
end Go.Proofs.YtghcmakhfdnimaaDoor
