/- Plain laws of UTF-8: characters written as bytes and read again. No condition but those written. -/
import Derived.Test.YtnbhejbpofjamaaGreatDoorUtf
import Derived.Laws.Cover4
namespace Go.Proofs.YtnbhejbpofjamaaGreatDoor
open Go.RowKit

/-- Is a number a character? -/
def okc (c : Nat) : Prop := c ≤ 1114111 ∧ (c < 55296 ∨ 57343 < c)
def byt (n : Nat) : UInt8 := UInt8.ofNat n
/-- The bytes of a character. -/
def encU (c : Nat) : List UInt8 :=
  if c < 128 then [byt c]
  else if c < 2048 then [byt (192 + c / 64), byt (128 + c % 64)]
  else if c < 65536 then [byt (224 + c / 4096), byt (128 + c / 64 % 64), byt (128 + c % 64)]
  else [byt (240 + c / 262144), byt (128 + c / 4096 % 64), byt (128 + c / 64 % 64), byt (128 + c % 64)]
def encL (L : List Nat) : List UInt8 := L.flatMap encU
def strOf (L : List Nat) : ByteArray := ⟨(encL L).toArray⟩
theorem byt_nat {n : Nat} (h : n < 256) : (byt n).toNat = n := by unfold byt; simp; omega
theorem byt_of {b : UInt8} {n : Nat} (h : b.toNat = n) : byt n = b := by subst h; unfold byt; exact UInt8.ofNat_toNat
theorem encode_eq {c : Nat} (h : okc c) : (Utf8.encode (c : Int)).data.toList = encU c := by
  have hv : Utf8.valid (c : Int) = true := by
    unfold Utf8.valid
    obtain ⟨h1, h2⟩ := h
    rcases h2 with h2 | h2
    · have a : decide ((0 : Int) ≤ (c : Int)) = true := by simp
      have b : decide ((c : Int) < 55296) = true := by simp; omega
      simp [b]
    · have a : decide ((57344 : Int) ≤ (c : Int)) = true := by simp; omega
      have b : decide ((c : Int) ≤ 1114111) = true := by simp; omega
      simp [a, b]
  unfold Utf8.encode encU
  simp only [hv, if_true, Int.toNat_natCast]
  repeat' split
  all_goals rfl
theorem encL_nil : encL [] = [] := rfl
theorem encL_cons (c : Nat) (L : List Nat) : encL (c :: L) = encU c ++ encL L := by simp [encL]
theorem encL_append (A B : List Nat) : encL (A ++ B) = encL A ++ encL B := by simp [encL]
theorem strOf_append (A B : List Nat) : strOf (A ++ B) = strOf A ++ strOf B := by
  unfold strOf
  rw [encL_append]
  apply ByteArray.ext
  simp
theorem encU_len (c : Nat) : 1 ≤ (encU c).length ∧ (encU c).length ≤ 4 := by
  unfold encU
  repeat' split
  all_goals simp
theorem encL_len (L : List Nat) : (encL L).length ≤ 4 * L.length := by
  induction L with
  | nil => simp [encL]
  | cons c L ih => rw [encL_cons, List.length_append, List.length_cons]; have := encU_len c; omega
theorem strOf_size (L : List Nat) : (strOf L).size ≤ 4 * L.length := by
  have := encL_len L
  show (encL L).toArray.size ≤ _
  simpa using this
theorem runes_str (L : List Nat) (h : ∀ c ∈ L, okc c) : ∀ s : ByteArray, (L.map (fun c : Nat => (c : Int))).foldl (fun r n => r ++ Utf8.encode n) s = s ++ strOf L := by
  induction L with
  | nil =>
    intro s
    apply ByteArray.ext
    simp [strOf, encL]
  | cons c L ih =>
    intro s
    rw [List.map_cons, List.foldl_cons, ih fun x hx => h x (List.mem_cons_of_mem _ hx)]
    apply ByteArray.ext
    have e := encode_eq (h c (List.mem_cons_self ..))
    have e2 : (Utf8.encode (c : Int)).data = (encU c).toArray := by rw [← e, Array.toArray_toList]
    simp only [ByteArray.data_append, e2, strOf, encL_cons]
    simp
theorem runesBytes_str {L : List Nat} (h : ∀ c ∈ L, okc c) : runesBytes (L.map fun c : Nat => (c : Int)) = strOf L := by
  unfold runesBytes
  rw [runes_str L h]
  apply ByteArray.ext
  simp

/-! ### Reading what was written -/
set_option maxRecDepth 100000 in
set_option maxHeartbeats 4000000 in
theorem point_encU {c : Nat} (h : okc c) (r : List UInt8) : pointL (encU c ++ r) = (c, (encU c).length) := by
  obtain ⟨h1, h2⟩ := h
  unfold encU
  by_cases a1 : c < 128
  · rw [if_pos a1]
    have e := byt_nat (n := c) (by omega)
    unfold pointL pointN
    simp only [List.cons_append, List.nil_append, List.getD_cons_zero, e, List.length_cons, List.length_nil]
    rw [if_pos a1]
  · rw [if_neg a1]
    by_cases a2 : c < 2048
    · rw [if_pos a2]
      have e0 := byt_nat (n := 192 + c / 64) (by omega)
      have e1 := byt_nat (n := 128 + c % 64) (by omega)
      unfold pointL pointN
      simp only [List.cons_append, List.nil_append, List.getD_cons_zero, List.getD_cons_succ, e0, e1, List.length_cons, List.length_nil]
      rw [if_neg (by omega), if_pos (by omega)]
      congr 1
      omega
    · rw [if_neg a2]
      by_cases a3 : c < 65536
      · rw [if_pos a3]
        have e0 := byt_nat (n := 224 + c / 4096) (by omega)
        have e1 := byt_nat (n := 128 + c / 64 % 64) (by omega)
        have e2 := byt_nat (n := 128 + c % 64) (by omega)
        unfold pointL pointN
        simp only [List.cons_append, List.nil_append, List.getD_cons_zero, List.getD_cons_succ, e0, e1, e2, List.length_cons, List.length_nil]
        have e3 : (224 + c / 4096 - 224) * 4096 + (128 + c / 64 % 64 - 128) * 64 + (128 + c % 64 - 128) = c := by omega
        rw [if_neg (by omega), if_neg (by omega), if_pos (by omega), e3, if_pos (by omega)]
      · rw [if_neg a3]
        have e0 := byt_nat (n := 240 + c / 262144) (by omega)
        have e1 := byt_nat (n := 128 + c / 4096 % 64) (by omega)
        have e2 := byt_nat (n := 128 + c / 64 % 64) (by omega)
        have e3 := byt_nat (n := 128 + c % 64) (by omega)
        unfold pointL pointN
        simp only [List.cons_append, List.nil_append, List.getD_cons_zero, List.getD_cons_succ, e0, e1, e2, e3, List.length_cons, List.length_nil]
        have e4 : (240 + c / 262144 - 240) * 262144 + (128 + c / 4096 % 64 - 128) * 4096 + (128 + c / 64 % 64 - 128) * 64 + (128 + c % 64 - 128) = c := by omega
        rw [if_neg (by omega), if_neg (by omega), if_neg (by omega), if_pos (by omega), e4, if_pos (by omega)]
theorem chars_enc_cons {c : Nat} (h : okc c) (r : List UInt8) : charsL (encU c ++ r) = (charsL r).map (c :: ·) := by
  have hl := encU_len c
  have hne : encU c ++ r ≠ [] := by
    intro e
    rw [(List.append_eq_nil_iff.1 e).1] at hl
    simp at hl
  rw [charsL_step _ hne, point_encU h, if_neg (show ¬ (c, (encU c).length).2 = 0 by show ¬ (encU c).length = 0; omega), List.drop_left]
theorem chars_enc : ∀ {L : List Nat}, (∀ c ∈ L, okc c) → charsL (encL L) = some L
  | [], _ => rfl
  | c :: L, h => by
    rw [encL_cons, chars_enc_cons (h c (List.mem_cons_self ..)), chars_enc fun x hx => h x (List.mem_cons_of_mem _ hx)]
    rfl

/-! ### Writing what was read -/
set_option maxHeartbeats 4000000 in
theorem enc_point {l : List UInt8} (h : l ≠ []) (hp : (pointL l).2 ≠ 0) : okc (pointL l).1 ∧ encU (pointL l).1 = l.take (pointL l).2 := by
  obtain ⟨b0, l1, rfl⟩ := List.exists_cons_of_ne_nil h
  have k0 := UInt8.toNat_lt b0
  unfold pointL pointN at hp ⊢
  simp only [List.getD_cons_zero, List.getD_cons_succ] at hp ⊢
  by_cases a1 : b0.toNat < 128
  · rw [if_pos a1]
    refine ⟨⟨by omega, .inl (by omega)⟩, ?_⟩
    show encU b0.toNat = [b0]
    unfold encU
    rw [if_pos a1, byt_of rfl]
  · rw [if_neg a1] at hp ⊢
    rcases l1 with _ | ⟨b1, l2⟩
    · exfalso
      simp only [List.length_cons, List.length_nil] at hp
      rw [if_neg (by omega), if_neg (by omega), if_neg (by omega)] at hp
      exact hp rfl
    · have k1 := UInt8.toNat_lt b1
      simp only [List.getD_cons_zero, List.getD_cons_succ] at hp ⊢
      by_cases a2 : 194 ≤ b0.toNat ∧ b0.toNat < 224 ∧ (1 < (b0 :: b1 :: l2).length ∧ 128 ≤ b1.toNat ∧ b1.toNat < 192)
      · rw [if_pos a2]
        refine ⟨⟨by show (b0.toNat - 192) * 64 + b1.toNat - 128 ≤ _; omega, .inl (by show (b0.toNat - 192) * 64 + b1.toNat - 128 < _; omega)⟩, ?_⟩
        show encU ((b0.toNat - 192) * 64 + b1.toNat - 128) = [b0, b1]
        unfold encU
        rw [if_neg (by omega), if_pos (by omega), byt_of (b := b0) (by omega), byt_of (b := b1) (by omega)]
      · rw [if_neg a2] at hp ⊢
        rcases l2 with _ | ⟨b2, l3⟩
        · exfalso
          simp only [List.length_cons, List.length_nil] at hp
          rw [if_neg (by omega), if_neg (by omega)] at hp
          exact hp rfl
        · have k2 := UInt8.toNat_lt b2
          simp only [List.getD_cons_zero, List.getD_cons_succ] at hp ⊢
          by_cases a3 : 224 ≤ b0.toNat ∧ b0.toNat < 240 ∧ (1 < (b0 :: b1 :: b2 :: l3).length ∧ 128 ≤ b1.toNat ∧ b1.toNat < 192) ∧ (2 < (b0 :: b1 :: b2 :: l3).length ∧ 128 ≤ b2.toNat ∧ b2.toNat < 192)
          · rw [if_pos a3] at hp ⊢
            split at hp
            · rename_i a4
              rw [if_pos a4]
              refine ⟨⟨by show (b0.toNat - 224) * 4096 + (b1.toNat - 128) * 64 + (b2.toNat - 128) ≤ _; omega, a4.2⟩, ?_⟩
              show encU ((b0.toNat - 224) * 4096 + (b1.toNat - 128) * 64 + (b2.toNat - 128)) = [b0, b1, b2]
              obtain ⟨u, hu⟩ : ∃ u, u = (b0.toNat - 224) * 4096 + (b1.toNat - 128) * 64 + (b2.toNat - 128) := ⟨_, rfl⟩
              rw [← hu] at a4 ⊢
              unfold encU
              rw [if_neg (by omega), if_neg (by omega), if_pos (by omega), byt_of (b := b0) (by omega), byt_of (b := b1) (by omega), byt_of (b := b2) (by omega)]
            · exact absurd rfl hp
          · rw [if_neg a3] at hp ⊢
            rcases l3 with _ | ⟨b3, l4⟩
            · exfalso
              simp only [List.length_cons, List.length_nil] at hp
              rw [if_neg (by omega)] at hp
              exact hp rfl
            · have k3 := UInt8.toNat_lt b3
              simp only [List.getD_cons_zero] at hp ⊢
              by_cases a5 : 240 ≤ b0.toNat ∧ b0.toNat < 245 ∧ (1 < (b0 :: b1 :: b2 :: b3 :: l4).length ∧ 128 ≤ b1.toNat ∧ b1.toNat < 192) ∧ (2 < (b0 :: b1 :: b2 :: b3 :: l4).length ∧ 128 ≤ b2.toNat ∧ b2.toNat < 192) ∧ (3 < (b0 :: b1 :: b2 :: b3 :: l4).length ∧ 128 ≤ b3.toNat ∧ b3.toNat < 192)
              · rw [if_pos a5] at hp ⊢
                split at hp
                · rename_i a6
                  rw [if_pos a6]
                  refine ⟨⟨a6.2, .inr (by show 57343 < (b0.toNat - 240) * 262144 + (b1.toNat - 128) * 4096 + (b2.toNat - 128) * 64 + (b3.toNat - 128); omega)⟩, ?_⟩
                  show encU ((b0.toNat - 240) * 262144 + (b1.toNat - 128) * 4096 + (b2.toNat - 128) * 64 + (b3.toNat - 128)) = [b0, b1, b2, b3]
                  obtain ⟨u, hu⟩ : ∃ u, u = (b0.toNat - 240) * 262144 + (b1.toNat - 128) * 4096 + (b2.toNat - 128) * 64 + (b3.toNat - 128) := ⟨_, rfl⟩
                  rw [← hu] at a6 ⊢
                  unfold encU
                  rw [if_neg (by omega), if_neg (by omega), if_neg (by omega), byt_of (b := b0) (by omega), byt_of (b := b1) (by omega), byt_of (b := b2) (by omega), byt_of (b := b3) (by omega)]
                · exact absurd rfl hp
              · rw [if_neg a5] at hp
                exact absurd rfl hp
theorem enc_chars : ∀ (l : List UInt8) (L : List Nat), charsL l = some L → (∀ c ∈ L, okc c) ∧ encL L = l := by
  intro l
  refine bytes_ind (p := fun l => ∀ L : List Nat, charsL l = some L → (∀ c ∈ L, okc c) ∧ encL L = l) ?_ ?_ ?_ l
  · intro L h
    rw [charsL_nil] at h
    cases h
    exact ⟨(fun c hc => by cases hc), rfl⟩
  · intro l hne hp L h
    rw [charsL_step l hne, if_pos hp] at h
    cases h
  · intro l hne hp ih L h
    rw [charsL_step l hne, if_neg hp] at h
    cases hq : charsL (l.drop (pointL l).2) with
    | none => rw [hq] at h; cases h
    | some M =>
      rw [hq] at h
      cases h
      obtain ⟨i1, i2⟩ := ih M hq
      obtain ⟨j1, j2⟩ := enc_point hne hp
      refine ⟨fun c hc => ?_, ?_⟩
      · rcases List.mem_cons.1 hc with rfl | hc
        · exact j1
        · exact i1 c hc
      · rw [encL_cons, i2, j2, List.take_append_drop]
/-- A string of characters is those characters, written. -/
theorem str_chars {s : ByteArray} {L : List Nat} (h : charsL s.data.toList = some L) : strOf L = s := by
  apply ByteArray.ext
  show (encL L).toArray = s.data
  rw [(enc_chars _ _ h).2]
theorem chars_okc {s : ByteArray} {L : List Nat} (h : charsL s.data.toList = some L) : ∀ c ∈ L, okc c := (enc_chars _ _ h).1
theorem chars_str {L : List Nat} (h : ∀ c ∈ L, okc c) : charsL (strOf L).data.toList = some L := by
  show charsL (encL L).toArray.toList = some L
  rw [List.toList_toArray]
  exact chars_enc h
end Go.Proofs.YtnbhejbpofjamaaGreatDoor
