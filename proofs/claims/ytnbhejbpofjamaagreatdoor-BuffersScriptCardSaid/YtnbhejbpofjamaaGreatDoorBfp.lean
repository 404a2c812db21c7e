/- Names of buffers: numerals, the names that Unique tries, their bytes. Plain. -/
import Derived.Test.YtnbhejbpofjamaaGreatDoorBru
import Derived.Lib.ItoaNum
namespace Go.Proofs.YtnbhejbpofjamaaGreatDoor
open Go.RowKit

def valD (l : List UInt8) : Nat := l.foldl (fun a b => a * 10 + (b.toNat - 48)) 0
theorem valD_snoc (l : List UInt8) (x : UInt8) : valD (l ++ [x]) = valD l * 10 + (x.toNat - 48) := by simp [valD]
theorem dig_nat {k : Nat} (h : k < 10) : (UInt8.ofNat (48 + k)).toNat = 48 + k := by
  show (48 + k) % 256 = 48 + k
  omega
theorem valD_dec (u : Nat) : valD (Lib.decDigits u) = u := by
  induction u using Nat.strongRecOn with
  | ind u ih =>
    rw [Lib.decDigits]
    split
    · next h => 
      show 0 * 10 + ((UInt8.ofNat (48 + u)).toNat - 48) = u
      rw [dig_nat h]
      omega
    · next h =>
      rw [valD_snoc, ih (u / 10) (by omega), dig_nat (by omega)]
      omega
theorem dec_low (u : Nat) : ∀ b ∈ Lib.decDigits u, b.toNat < 128 := by
  induction u using Nat.strongRecOn with
  | ind u ih =>
    intro b hb
    rw [Lib.decDigits] at hb
    split at hb
    · next h =>
      obtain rfl := List.mem_singleton.1 hb
      rw [dig_nat h]
      omega
    · next h =>
      rcases List.mem_append.1 hb with hb | hb
      · exact ih (u / 10) (by omega) b hb
      · obtain rfl := List.mem_singleton.1 hb
        rw [dig_nat (by omega)]
        omega
theorem dec_len {u : Nat} (h : u < 1000) : (Lib.decDigits u).length ≤ 3 := by
  rw [Lib.decDigits]
  split
  · simp
  · rw [Lib.decDigits]
    split
    · simp
    · rw [Lib.decDigits]
      rw [dif_pos (by omega)]
      simp
theorem dec_inj {i j : Nat} (h : Lib.decDigits i = Lib.decDigits j) : i = j := by
  rw [← valD_dec i, ← valD_dec j, h]
/-- The names that Unique tries: the k-th. -/
def nmL (s : List UInt8) (k : Nat) : List UInt8 := if k = 0 then s else s ++ ([60] ++ (Lib.decDigits (k + 1) ++ [62]))
def nmB (s : ByteArray) (k : Nat) : ByteArray := ⟨(nmL s.data.toList k).toArray⟩
theorem nmB_zero (s : ByteArray) : nmB s 0 = s := by
  unfold nmB nmL
  simp
theorem nmL_inj {s : List UInt8} {j k : Nat} (h : nmL s j = nmL s k) : j = k := by
  unfold nmL at h
  split at h <;> split at h
  · omega
  · have := congrArg List.length h
    simp at this
  · have := congrArg List.length h
    simp at this
  · have h1 := List.append_cancel_left h
    have h2 := List.append_cancel_left h1
    have h3 := dec_inj (List.append_cancel_right h2)
    omega
theorem nmB_inj {s : ByteArray} {j k : Nat} (h : nmB s j = nmB s k) : j = k := by
  refine nmL_inj (s := s.data.toList) ?_
  have := congrArg (fun b : ByteArray => b.data.toList) h
  simpa [nmB] using this
theorem nmB_data (s : ByteArray) (k : Nat) : (nmB s k).data.toList = nmL s.data.toList k := by simp [nmB]
theorem nmB_size (s : ByteArray) (k : Nat) (hk : k < 900) : (nmB s k).size ≤ s.size + 5 := by
  show (nmB s k).data.size ≤ s.data.size + 5
  rw [← Array.length_toList, nmB_data, ← Array.length_toList]
  unfold nmL
  split
  · omega
  · have := dec_len (u := k + 1) (by omega)
    simp
    omega
theorem point_asc (b : UInt8) (l : List UInt8) (h : b.toNat < 128) : pointL (b :: l) = (b.toNat, 1) := by
  unfold pointL
  simp only [List.length_cons, List.getD_cons_zero]
  unfold pointN
  rw [if_pos h]
theorem chars_asc : ∀ (l : List UInt8), (∀ b ∈ l, b.toNat < 128) → charsL l = some (l.map (·.toNat))
  | [], _ => rfl
  | b :: l, h => by
    rw [charsL_step _ (by simp), point_asc b l (h b (List.mem_cons_self ..))]
    simp [chars_asc l fun x hx => h x (List.mem_cons_of_mem _ hx)]
theorem valid_asc {s : ByteArray} (h : ∀ b ∈ s.data.toList, b.toNat < 128) : validS s = true := by unfold validS; rw [chars_asc _ h]; rfl
theorem len_asc {s : ByteArray} (h : ∀ b ∈ s.data.toList, b.toNat < 128) : lenS s = s.size := by
  unfold lenS
  rw [chars_asc _ h]
  show ((s.data.toList.map (·.toNat))).length = s.data.size
  simp
theorem nm_asc {s : ByteArray} (h : ∀ b ∈ s.data.toList, b.toNat < 128) (k : Nat) : ∀ b ∈ (nmB s k).data.toList, b.toNat < 128 := by
  intro b hb
  rw [nmB_data] at hb
  unfold nmL at hb
  split at hb
  · exact h b hb
  · simp only [List.mem_append, List.mem_singleton] at hb
    rcases hb with hb | rfl | hb | rfl
    · exact h b hb
    · decide
    · exact dec_low _ b hb
    · decide
theorem nodup_len {α : Type} [DecidableEq α] : ∀ (A L : List α), L.Nodup → (∀ x ∈ L, x ∈ A) → L.length ≤ A.length
  | [], L, _, h => by
    cases L with
    | nil => exact Nat.le_refl _
    | cons x _ => exact absurd (h x (List.mem_cons_self ..)) (by simp)
  | a :: A, L, hn, h => by
    have h1 := nodup_len A (L.erase a) (hn.erase a) fun x hx => by
      obtain ⟨h2, h3⟩ := (hn.mem_erase_iff).1 hx
      rcases List.mem_cons.1 (h x h3) with rfl | h4
      · exact absurd rfl h2
      · exact h4
    by_cases hm : a ∈ L
    · have := List.length_erase_of_mem hm
      simp only [List.length_cons]
      omega
    · rw [List.erase_of_not_mem hm] at h1
      simp only [List.length_cons]
      omega
/-- No more names are taken, one behind the other, than there are. -/
theorem taken_le {s : ByteArray} {A : List ByteArray} {k : Nat} (h : ∀ j, j < k → nmB s j ∈ A) : k ≤ A.length := by
  have h1 := nodup_len (A.map (·.data.toList)) ((List.range k).map fun j => (nmB s j).data.toList) ?_ ?_
  · simpa using h1
  · rw [List.Nodup, List.pairwise_map]
    refine (List.nodup_range (n := k)).imp fun {a b} hab he => hab ?_
    rw [nmB_data, nmB_data] at he
    exact nmL_inj he
  · intro x hx
    obtain ⟨j, hj, rfl⟩ := List.mem_map.1 hx
    exact List.mem_map.2 ⟨_, h j (List.mem_range.1 hj), rfl⟩
end Go.Proofs.YtnbhejbpofjamaaGreatDoor
