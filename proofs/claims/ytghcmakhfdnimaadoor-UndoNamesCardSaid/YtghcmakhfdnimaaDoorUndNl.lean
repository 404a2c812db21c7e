/- Plain laws of the log in the examples of UndoNames. No condition but those written. -/
import Derived.Test.YtghcmakhfdnimaaDoorUndLim
import Derived.Test.YtghcmakhfdnimaaDoorTimes
namespace Go.Proofs.YtghcmakhfdnimaaDoor
open Go.RowKit

def clnC : Chg := ⟨6, 0, 0, 0, 0, ⟨#[]⟩, 0, 0, false⟩
def xyC : Chg := remC 1 ⟨#[120, 121]⟩
def ffC : Chg := remC 1 ⟨#[255]⟩
def badC : List Chg := [⟨0, 0, 0, 0, 0, ⟨#[]⟩, 0, 0, false⟩, ⟨7, 1, 0, 0, 0, ⟨#[]⟩, 0, 0, false⟩, insC 0 3, insC 3 2, ⟨5, 1, 2, 0, -1, ⟨#[]⟩, 0, 0, false⟩, ⟨3, 0, 0, 0, 0, ⟨#[]⟩, 0, 0, false⟩, ⟨4, 1099511627777, 0, 0, 0, ⟨#[]⟩, 0, 0, false⟩]
theorem bad_check : ∀ c ∈ badC, c.check = 2 := by decide +kernel
theorem bad_size : ∀ c ∈ badC, c.tx.size ≤ 200 := by decide +kernel
theorem bad_add {c : Chg} (s : Lg) (hc : c ∈ badC) : s.add c = s := by unfold Lg.add; rw [if_neg (by rw [bad_check c hc]; decide)]
theorem ff_check : ffC.check = 5 := by decide +kernel
theorem cln_check : clnC.check = 0 := by decide +kernel
theorem xy_check : xyC.check = 0 := by decide +kernel
def q1 : Lg := (Lg.new 3).add clnC
def q2 : Lg := q1.close
def q3 : Lg := q2.add xyC
def q4 : Lg := q3.close
theorem q1_eq : q1 = ⟨3, [], [clnC], -1, 1, 1⟩ := by kernel_rfl
theorem q2_eq : q2 = ⟨3, [[clnC]], [], -1, 1, 0⟩ := by kernel_rfl
theorem q3_eq : q3 = ⟨3, [[clnC]], [xyC], -1, 4, 3⟩ := by kernel_rfl
theorem q4_eq : q4 = ⟨3, [[xyC]], [], -1, 3, 0⟩ := by kernel_rfl
theorem q3_all : q3.all.length = 2 := by rw [q3_eq]; rfl
theorem q4_all : q4.all = [[xyC]] := by rw [q4_eq]; rfl
theorem g0 : Good (Lg.new 3) := Good.new (by omega) (by omega)
theorem g1 : Good q1 := g0.add _
theorem g2 : Good q2 := g1.close
theorem g3 : Good q3 := g2.add _
theorem g4 : Good q4 := g3.close
theorem z1 : Sized q1 1 := (Sized.new 3).add (by decide +kernel)
theorem z2 : Sized q2 1 := z1.close g1
theorem z3 : Sized q3 2 := z2.add (by decide +kernel)
theorem z4 : Sized q4 2 := z3.close g3

/-! ### The great group -/
def bigL (tx : ByteArray) (k : Nat) : Lg := ⟨1048576, [], List.replicate k (remC 1 tx), -1, 65537 * (k : Int), 65537 * (k : Int)⟩
section
variable {tx : ByteArray}
theorem big_check (hv : validS tx = true) : (remC 1 tx).check = 0 := by
  unfold Chg.check remC
  simp [hv]
theorem big_price (hl : lenS tx = 65536) : (remC 1 tx).price = 65537 := by
  unfold Chg.price remC
  simp [hl]
theorem big_join (s : Lg) : s.joins (remC 1 tx) = false := by
  unfold Lg.joins remC
  split
  · simp
  · rfl
theorem big_new : Lg.new 1048576 = bigL tx 0 := rfl
theorem big_add (hv : validS tx = true) (hl : lenS tx = 65536) {k : Nat} (hk : k < 15) : (bigL tx k).add (remC 1 tx) = bigL tx (k + 1) := by
  unfold Lg.add
  rw [if_pos (big_check hv)]
  unfold Lg.add0
  rw [big_join, big_price hl]
  simp only [Bool.false_eq_true, if_false]
  rw [if_neg (by show ¬ (1048576 < 65537 * (k : Int) + ((65537 : Nat) : Int)); omega)]
  unfold Lg.push
  rw [big_price hl]
  unfold bigL
  simp only [Lg.mk.injEq, true_and]
  refine ⟨by rw [List.replicate_succ'], by omega, by omega⟩
theorem big_last (hv : validS tx = true) (hl : lenS tx = 65536) : (bigL tx 15).add (remC 1 tx) = bigL tx 1 := by
  unfold Lg.add
  rw [if_pos (big_check hv)]
  unfold Lg.add0
  rw [big_join, big_price hl]
  simp only [Bool.false_eq_true, if_false]
  rw [if_pos (by show (1048576 : Int) < 65537 * ((15 : Nat) : Int) + ((65537 : Nat) : Int); omega)]
  unfold Lg.push
  rw [big_price hl]
  rfl
theorem big_total (hl : lenS tx = 65536) (k : Nat) : total (List.replicate k (remC 1 tx)) = 65537 * k := by
  induction k with
  | zero => rfl
  | succ k ih => rw [List.replicate_succ, total_cons, ih, big_price hl]; omega
theorem big_good (hl : lenS tx = 65536) (k : Nat) : Good (bigL tx k) := by
  refine ⟨by show (1 : Int) ≤ 1048576; omega, by show (1048576 : Int) ≤ 1048576; omega, ?_, ?_, by show (-1 : Int) ≤ -1; omega, by show (-1 : Int) ≤ ((0 : Nat) : Int); omega⟩
  · show 65537 * (k : Int) = ((sumG [] + total (List.replicate k (remC 1 tx)) : Nat) : Int)
    rw [big_total hl]
    show 65537 * (k : Int) = ((0 + 65537 * k : Nat) : Int)
    omega
  · show 65537 * (k : Int) = ((total (List.replicate k (remC 1 tx)) : Nat) : Int)
    rw [big_total hl]
    omega
theorem big_small (hz : tx.size = 65536) {k : Nat} (hk : k ≤ 15) : Small (bigL tx k) := by
  refine ⟨by show 65537 * (k : Int) ≤ _; omega, Nat.zero_le _, fun g hg => by simp [bigL] at hg, ?_, fun g hg => by simp [bigL] at hg, fun c hc => ?_⟩
  · show (List.replicate k (remC 1 tx)).length ≤ _
    rw [List.length_replicate]
    omega
  · have := (List.mem_replicate.1 hc).2
    subst this
    show tx.size ≤ _
    omega
theorem big_many {k : Nat} (h : 0 < k) : (bigL tx k).all.length = 1 := by
  obtain ⟨j, rfl⟩ : ∃ j, k = j + 1 := ⟨k - 1, by omega⟩
  unfold Lg.all bigL
  rw [if_neg (by simp [List.replicate_succ])]
  rfl
end
end Go.Proofs.YtghcmakhfdnimaaDoor
