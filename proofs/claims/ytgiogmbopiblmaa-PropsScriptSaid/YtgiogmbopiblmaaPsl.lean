/- The reference's Deleted and Inserted: the plain laws. No condition but those written. -/
import Derived.Test.YtgiogmbopiblmaaPsh
namespace Go.Proofs.Ytgiogmbopiblmaa
open Go.RowKit

theorem del_like {L : List (List Pr)} {P : List Pc} {N a d a1 b1 : Nat} (hl : Like L P) (hg : Good P N) (h1 : 1 ≤ a) (h2 : a ≤ d) (ha : a1 = min (a - 1) L.length) (hb : b1 = min (d - 1) L.length) : Like (L.take a1 ++ L.drop b1) (delP a d P) := by
  obtain ⟨_, _, g3⟩ := del_inv a d h2 P hg.nf
  have hz : ∀ i, L.length ≤ i → den P (i + 1) = [] := fun i hi => by
    have := hl i
    rw [List.getElem?_eq_none hi] at this
    exact this.symm
  intro i
  rw [g3]
  have e0 : (L.take a1).length = a1 := by rw [List.length_take]; omega
  by_cases c : i < a1
  · rw [List.getElem?_append_left (by omega), List.getElem?_take, if_pos c, if_pos (by omega)]
    exact hl i
  · rw [List.getElem?_append_right (by omega), List.getElem?_drop, e0]
    by_cases c2 : i + 1 < a
    · rw [if_pos c2, hz i (by omega), List.getElem?_eq_none (by omega)]
      rfl
    · rw [if_neg c2]
      by_cases c3 : d - 1 ≤ L.length
      · rw [show i + 1 + (d - a) = (b1 + (i - a1)) + 1 by omega]
        exact hl _
      · rw [show i + 1 + (d - a) = (i + (d - a)) + 1 by omega, hz _ (by omega), List.getElem?_eq_none (by omega)]
        rfl
theorem ins_like {L : List (List Pr)} {P : List Pc} {N a n : Nat} (hl : Like L P) (hg : Good P N) (h1 : 1 ≤ a) (ha : a ≤ L.length) (hfit : ∀ i, a ≤ i + 1 → 65536 < i + 1 + n → den P (i + 1) = []) : Like ((L.take (a - 1) ++ List.replicate n [] ++ L.drop (a - 1)).take 65536) (insP a n P) := by
  obtain ⟨_, _, g3⟩ := ins_inv a n P hg.nf
  have e0 : (L.take (a - 1)).length = a - 1 := by rw [List.length_take]; omega
  intro i
  rw [g3, List.getElem?_take]
  by_cases c0 : i < 65536
  · rw [if_pos c0]
    by_cases c : i < a - 1
    · rw [List.append_assoc, List.getElem?_append_left (by omega), List.getElem?_take, if_pos c, if_pos (by omega)]
      exact hl i
    · rw [if_neg (by omega)]
      by_cases c2 : i + 1 < a + n
      · rw [if_pos c2, List.append_assoc, List.getElem?_append_right (by omega), List.getElem?_append_left (by rw [List.length_replicate]; omega), List.getElem?_replicate, if_pos (by omega)]
        rfl
      · rw [if_neg c2, List.getElem?_append_right (by rw [List.length_append, List.length_replicate]; omega), List.getElem?_drop, List.length_append, List.length_replicate, e0, show i + 1 - n = (a - 1 + (i - (a - 1 + n))) + 1 by omega]
        exact hl _
  · rw [if_neg c0]
    by_cases c : i + 1 < a
    · rw [if_pos c, hg.ran _ (by omega)]
      rfl
    · rw [if_neg c]
      by_cases c2 : i + 1 < a + n
      · rw [if_pos c2]
        rfl
      · rw [if_neg c2, show i + 1 - n = (i - n) + 1 by omega, hfit (i - n) (by omega) (by omega)]
        rfl
end Go.Proofs.Ytgiogmbopiblmaa
namespace Go.Proofs.Ytgiogmbopiblmaa
open Go.RowKit

section
variable {W w : World} {rb : Nat} {L : List (List Pr)} {P : List Pc} {v : Value} {R : List (List Pr × Value)}
theorem LxAt.front {g off n c k : Nat} {R : List (List Pr × Value)} (h : LxAt w (.slice (some ⟨g, off, none⟩) n c) R) (hn : n = R.length) (hk : k ≤ n) (d : Nat) : Rd w (.slice (some ⟨g, off, none⟩) k d) 1 k (rows lxC (R.take k)) := by
  have h1 := Sl.rd h.row
  rw [← hn] at h1
  have h2 := h1.front hk d
  rw [rows_take lxC_len] at h2
  exact h2
theorem LxAt.back {g off n c k : Nat} {R : List (List Pr × Value)} (h : LxAt w (.slice (some ⟨g, off, none⟩) n c) R) (hn : n = R.length) (hk : k ≤ n) (hnc : n ≤ c) (d : Nat) : Rd w (.slice (if c = k then some ⟨g, off, none⟩ else some ⟨g, off + k, none⟩) (n - k) d) 1 (n - k) (rows lxC (R.drop k)) := by
  have h1 := Sl.rd h.row
  rw [← hn] at h1
  have h2 := h1.cutIf (j := k) hk hnc d
  rw [rows_drop lxC_len, Nat.mul_one] at h2
  exact h2
theorem LxAt.part (h : LxAt w v R) {R' : List (List Pr × Value)} (hR : ∀ x ∈ R', x ∈ R) : ∀ u ∈ rows lxC R', u.oneCell' = true := by
  intro u hu
  obtain ⟨p, hp, hu⟩ := List.mem_flatMap.1 hu
  exact h.one u (List.mem_flatMap.2 ⟨p, hR p hp, hu⟩)
theorem keep_box (h : RfAt w rb v R) {w' : World} (hb : Below w.heap.size w w') : w'.cell? ⟨rb, 0, none⟩ = some v := (h.below hb).box.cell 0
theorem LxAt.nil_of (h : LxAt w (.slice none 0 0) R) : R = [] := by
  rcases h.row.2 with ⟨_, e⟩ | ⟨g, off, c, cs, e, _⟩
  · exact List.eq_nil_of_length_eq_zero e
  · cases e
set_option maxRecDepth 100000 in
set_option maxHeartbeats 16000000 in
theorem rdel_some (h : ROb W w rb L) (hl : Like L P) (hg : Good P 64) {a d : Nat} (h1 : 1 ≤ a) (h2 : a ≤ d) (h3 : d ≤ 65537) {g off n c : Nat} (hr : RfAt w rb (.slice (some ⟨g, off, none⟩) n c) R) (hrl : lsts R = L) (hn : n = R.length) (hnc : n ≤ c) (hcm : c ≤ maxLen) : Calls Try.prog 67 #[.pointer (some ⟨rb, 0, none⟩), .int .i64 (a : Int), .int .i64 (d : Int)] w (RRes W w rb (delP a d P) (.int .i64 0)) := by
  have HMA := hide (rmay_any a d w)
  rw [decide_eq_true (show mayP a d from ⟨by omega, by omega, by omega⟩)] at HMA
  obtain ⟨a0, ha0⟩ : ∃ m, a = m + 1 := ⟨a - 1, by omega⟩
  obtain ⟨d0, hd0⟩ : ∃ m, d = m + 1 := ⟨d - 1, by omega⟩
  have wa : IntKind.i64.wrap ((a : Int) - 1) = (a0 : Int) := by rw [show (a : Int) - 1 = (a0 : Int) by omega]; exact IntWalk.i64_in _ (by omega)
  have wd : IntKind.i64.wrap ((d : Int) - 1) = (d0 : Int) := by rw [show (d : Int) - 1 = (d0 : Int) by omega]; exact IntWalk.i64_in _ (by omega)
  obtain ⟨a1, ha1⟩ : ∃ m, m = min a0 n := ⟨_, rfl⟩
  obtain ⟨b1, hb1⟩ : ∃ m, m = min d0 n := ⟨_, rfl⟩
  have q1 : ∀ (w : World), (Builtin.min_ #[3, 3] 3 #[.int .i64 (a0 : Int), .int .i64 (n : Int)]).run Try.prog w = .ok (.int .i64 (a1 : Int)) w := fun w => by rw [run_min_int2, ha1]; congr 3; split <;> omega
  have q2 : ∀ (w : World), (Builtin.min_ #[3, 3] 3 #[.int .i64 (d0 : Int), .int .i64 (n : Int)]).run Try.prog w = .ok (.int .i64 (b1 : Int)) w := fun w => by rw [run_min_int2, hb1]; congr 3; split <;> omega
  have k1 : a1 ≤ n := by omega
  have k2 : b1 ≤ n := by omega
  have k3 : a1 ≤ c := by omega
  have k4 : b1 ≤ c := by omega
  have k5 : (a1 : Int) ≤ (c : Int) := by omega
  have k6 : (b1 : Int) ≤ (n : Int) := by omega
  have k7 : (n : Int) ≤ (c : Int) := by omega
  have hn9 : (n : Int) ≤ 65536 := by have := hr.len; omega
  have hc9 : (c : Int) ≤ 9223372036854775807 := by unfold maxLen at hcm; omega
  obtain ⟨Bv, hBv⟩ : ∃ Bv, (if c = b1 then some (⟨g, off, none⟩ : Addr) else some (⟨g, off + b1, none⟩ : Addr)) = Bv := ⟨_, rfl⟩
  have hm9 : n - b1 ≤ 65536 := by omega
  have HR := hide hr
  have HRL := hide hrl
  have H := hide h
  have HL := hide hl
  have HG := hide hg
  have HDL := hide (fun (x1 x2 : Nat) (e1 : x1 = min (a - 1) L.length) (e2 : x2 = min (d - 1) L.length) => del_like hl hg h1 h2 e1 e2)
  have c0 : w.cell? ⟨rb, 0, none⟩ = some (.slice (some ⟨g, off, none⟩) n c) := hr.box.cell 0
  obtain ⟨j0, hj, hy0, hy1, hy2⟩ := info_parts info_lx
  have HJ := hide hj
  have HY := hide hy0
  have HY1 := hide hy1
  have HY2 := hide hy2
  have HN := hide hn
  have HE1 := hide (show a1 = min (a - 1) L.length by rw [← hrl, lsts_len, ← hn]; omega)
  have HE2 := hide (show b1 = min (d - 1) L.length by rw [← hrl, lsts_len, ← hn]; omega)
  have HK1 := hide k1
  have HADL := hide h2
  have HK2 := hide k2
  have HNC := hide hnc
  have HBV := hide hBv
  have HA0 := hide ha0
  clear h hl hg hr hrl hn hj hy0 hy1 hy2 ha0 hd0 h1 h2 h3 ha1 hb1 hcm hnc
  go_enter Try.func67, Try.ntmps67
  go_upto_region 3 with (go_at_call 70; (with_reducible refine Calls.mono HMA.out ?_); rintro r w1 ⟨rfl, rfl⟩)
  go_region
  go_upto_region 4 with fail
  have HB2 := hide ((Below.refl w.heap.size w).drew.drew)
  refine wp_region_d (S := fun y => y.cell? ⟨rb, 0, none⟩ = some (.slice (some ⟨g, off, none⟩) n c)) (D := [18]) (by kernel_rfl) ?_
  change wpAnyD _ _ _ _ _ _ _ _ _ w.drew.drew
  obtain ⟨w2, hw2⟩ : ∃ y : World, y = w.drew.drew := ⟨_, rfl⟩
  rw [← hw2] at HB2 ⊢
  clear hw2
  have hS := keep_box HR.out HB2.out
  clear c0
  refine wpAnyD_takeW (i := 0) (oi := { dst := some 29, op := Op.move (Operand.tmp 0), type := 61, pos := "ref.go:255", after := #[], guard := none }) (v := ?_) rfl (by kernel_rfl) (by kernel_rfl) (by kernel_rfl) (fun _ _ _ h => h) (Or.inl ⟨by rfl, ?_⟩) ?_
  rotate_left
  · intro w hSw
    clear hSw
    go_simp
    all_goals with_reducible rfl
  simp only [Act.put, List.setIfInBounds_toArray, List.set_cons_zero, List.set_cons_succ]
  refine wpAnyD_takeW (i := 2) (oi := { dst := some 31, op := Op.move (Operand.tmp 0), type := 61, pos := "ref.go:255", after := #[], guard := none }) (v := ?_) rfl (by kernel_rfl) (by kernel_rfl) (by kernel_rfl) (fun _ _ _ h => h) (Or.inl ⟨by rfl, ?_⟩) ?_
  rotate_left
  · intro w hSw
    clear hSw
    go_simp
    all_goals with_reducible rfl
  simp only [Act.put, List.setIfInBounds_toArray, List.set_cons_zero, List.set_cons_succ]
  refine wpAnyD_takeW (i := 3) (oi := { dst := some 32, op := Op.nilCheck (Operand.tmp 31), type := 0, pos := "ref.go:255", after := #[{ on := 2, ground := Ground.data }], guard := none }) (v := ?_) rfl (by kernel_rfl) (by kernel_rfl) (by kernel_rfl) (fun _ _ _ h => h) (Or.inl ⟨by rfl, ?_⟩) ?_
  rotate_left
  · intro w hSw
    clear hSw
    go_simp
    all_goals with_reducible rfl
  simp only [Act.put, List.setIfInBounds_toArray, List.set_cons_zero, List.set_cons_succ]
  refine wpAnyD_takeW (i := 4) (oi := { dst := some 33, op := Op.fieldAddr 84 (Operand.tmp 32) 0, type := 0, pos := "ref.go:255", after := #[{ on := 3, ground := Ground.data }], guard := none }) (v := ?_) rfl (by kernel_rfl) (by kernel_rfl) (by kernel_rfl) (fun _ _ _ h => h) (Or.inl ⟨by rfl, ?_⟩) ?_
  rotate_left
  · intro w hSw
    clear hSw
    go_simp
    all_goals with_reducible rfl
  simp only [Act.put, List.setIfInBounds_toArray, List.set_cons_zero, List.set_cons_succ]
  refine wpAnyD_take (i := 5) (oi := { dst := some 34, op := Op.load 82 (Operand.tmp 33), type := 82, pos := "ref.go:255", after := #[{ on := 4, ground := Ground.data }], guard := none }) (v := ?_) rfl (by kernel_rfl) (by kernel_rfl) (by kernel_rfl) (by kernel_rfl) (by kernel_rfl) (fun _ _ _ h => h) (Or.inl ⟨by rfl, ?_⟩) hS ?_
  rotate_left
  · intro w hSw
    have s0 := hSw
    go_simp
    all_goals with_reducible rfl
  simp only [Act.put, List.setIfInBounds_toArray, List.set_cons_zero, List.set_cons_succ]
  refine wpAnyD_takeW (i := 6) (oi := { dst := some 35, op := Op.move (Operand.tmp 7), type := 3, pos := "ref.go:255", after := #[], guard := none }) (v := ?_) rfl (by kernel_rfl) (by kernel_rfl) (by kernel_rfl) (fun _ _ _ h => h) (Or.inl ⟨by rfl, ?_⟩) ?_
  rotate_left
  · intro w hSw
    clear hSw
    go_simp
    all_goals with_reducible rfl
  simp only [Act.put, List.setIfInBounds_toArray, List.set_cons_zero, List.set_cons_succ]
  refine wpAnyD_takeW (i := 7) (oi := { dst := some 36, op := Op.slice 82 (Operand.tmp 34) none (some (Operand.tmp 35)) none, type := 82, pos := "ref.go:255", after := #[{ on := 5, ground := Ground.data }, { on := 6, ground := Ground.data }], guard := none }) (v := ?_) rfl (by kernel_rfl) (by kernel_rfl) (by kernel_rfl) (fun _ _ _ h => h) (Or.inl ⟨by rfl, ?_⟩) ?_
  rotate_left
  · intro w hSw
    clear hSw
    go_simp
    all_goals with_reducible rfl
  simp only [Act.put, List.setIfInBounds_toArray, List.set_cons_zero, List.set_cons_succ]
  refine wpAnyD_takeW (i := 9) (oi := { dst := some 38, op := Op.move (Operand.tmp 0), type := 61, pos := "ref.go:255", after := #[], guard := none }) (v := ?_) rfl (by kernel_rfl) (by kernel_rfl) (by kernel_rfl) (fun _ _ _ h => h) (Or.inl ⟨by rfl, ?_⟩) ?_
  rotate_left
  · intro w hSw
    clear hSw
    go_simp
    all_goals with_reducible rfl
  simp only [Act.put, List.setIfInBounds_toArray, List.set_cons_zero, List.set_cons_succ]
  refine wpAnyD_takeW (i := 10) (oi := { dst := some 39, op := Op.nilCheck (Operand.tmp 38), type := 0, pos := "ref.go:255", after := #[{ on := 9, ground := Ground.data }], guard := none }) (v := ?_) rfl (by kernel_rfl) (by kernel_rfl) (by kernel_rfl) (fun _ _ _ h => h) (Or.inl ⟨by rfl, ?_⟩) ?_
  rotate_left
  · intro w hSw
    clear hSw
    go_simp
    all_goals with_reducible rfl
  simp only [Act.put, List.setIfInBounds_toArray, List.set_cons_zero, List.set_cons_succ]
  refine wpAnyD_takeW (i := 11) (oi := { dst := some 40, op := Op.fieldAddr 84 (Operand.tmp 39) 0, type := 0, pos := "ref.go:255", after := #[{ on := 10, ground := Ground.data }], guard := none }) (v := ?_) rfl (by kernel_rfl) (by kernel_rfl) (by kernel_rfl) (fun _ _ _ h => h) (Or.inl ⟨by rfl, ?_⟩) ?_
  rotate_left
  · intro w hSw
    clear hSw
    go_simp
    all_goals with_reducible rfl
  simp only [Act.put, List.setIfInBounds_toArray, List.set_cons_zero, List.set_cons_succ]
  refine wpAnyD_take (i := 12) (oi := { dst := some 41, op := Op.load 82 (Operand.tmp 40), type := 82, pos := "ref.go:255", after := #[{ on := 11, ground := Ground.data }], guard := none }) (v := ?_) rfl (by kernel_rfl) (by kernel_rfl) (by kernel_rfl) (by kernel_rfl) (by kernel_rfl) (fun _ _ _ h => h) (Or.inl ⟨by rfl, ?_⟩) hS ?_
  rotate_left
  · intro w hSw
    have s0 := hSw
    go_simp
    all_goals with_reducible rfl
  simp only [Act.put, List.setIfInBounds_toArray, List.set_cons_zero, List.set_cons_succ]
  refine wpAnyD_takeW (i := 13) (oi := { dst := some 42, op := Op.move (Operand.tmp 8), type := 3, pos := "ref.go:255", after := #[], guard := none }) (v := ?_) rfl (by kernel_rfl) (by kernel_rfl) (by kernel_rfl) (fun _ _ _ h => h) (Or.inl ⟨by rfl, ?_⟩) ?_
  rotate_left
  · intro w hSw
    clear hSw
    go_simp
    all_goals with_reducible rfl
  simp only [Act.put, List.setIfInBounds_toArray, List.set_cons_zero, List.set_cons_succ]
  refine wpAnyD_takeW (i := 14) (oi := { dst := some 43, op := Op.slice 82 (Operand.tmp 41) (some (Operand.tmp 42)) none none, type := 82, pos := "ref.go:255", after := #[{ on := 12, ground := Ground.data }, { on := 13, ground := Ground.data }], guard := none }) (v := ?_) rfl (by kernel_rfl) (by kernel_rfl) (by kernel_rfl) (fun _ _ _ h => h) (Or.inl ⟨by rfl, ?_⟩) ?_
  rotate_left
  · intro w hSw
    clear hSw
    go_simp
    all_goals with_reducible rfl
  simp only [Act.put, List.setIfInBounds_toArray, List.set_cons_zero, List.set_cons_succ]
  clear hS
  refine wpAnyD_one (i := 1) (o := { dst := some 30, op := Op.buildSlice 82 0 #[], type := 82, pos := "ref.go:255", after := #[], guard := none }) (by kernel_rfl) rfl (fun K hK => ?_)
  go_simp
  have HBA := hide (show Below w.heap.size w (w2.alloc (.cells #[] 32)) from HB2.out.alloc HB2.out.size _)
  have HS4 := hide (show Sl (w2.alloc (.cells #[] 32)) 32 1 (.slice (some ⟨w2.heap.size, 0, none⟩) 0 0) 0 [] by simpa using Sl.new w2 32 1 #[] 0 0 (Nat.le_refl _) (by simp [maxLen]) (by simp))
  refine hK _ _ (fun _ _ => keep_box HR.out HBA.out) ?_
  clear hK K
  try simp only [Act.put, List.setIfInBounds_toArray, List.set_cons_zero, List.set_cons_succ]
  refine wpAnyD_one (i := 8) (o := { dst := some 37, op := Op.call { callee := Callee.builtin Builtin.append, args := #[Operand.tmp 30, Operand.tmp 36], argTypes := #[82, 82] }, type := 82, pos := "ref.go:255", after := #[{ on := 1, ground := Ground.data }, { on := 7, ground := Ground.data }], guard := none }) (by kernel_rfl) rfl (fun K hK => ?_)
  refine step_append_sl rfl (.tmp 30) (.tmp 36) 82 rfl 32 j0 (.slice none 0 0) 1 24 Try.underlying82 HJ.out HY.out HY1.out HY2.out rfl (.slice (some ⟨w2.heap.size, 0, none⟩) 0 0) 0 [] rfl HS4.out (.slice (some ⟨g, off, none⟩) a1 c) rfl a1 (rows lxC (R.take a1)) ((HR.out.below HBA.out).inn.front HN.out HK1.out c) ((HR.out.inn).part fun x hx => List.mem_of_mem_take hx) (by unfold maxLen; omega) (by omega) ?_
  intro v5 w5 hs5 ho5 hv5
  have HS5 := hide hs5
  have HF5 := hide (fresh_step HBA.out (by intro i hi; cases hi; exact HB2.out.size) ho5 hv5)
  refine hK _ _ (fun _ _ => keep_box HR.out HF5.out.1) ?_
  clear hK K hs5 ho5 hv5
  try simp only [Act.put, List.setIfInBounds_toArray, List.set_cons_zero, List.set_cons_succ]
  refine wpAnyD_one (i := 15) (o := { dst := some 44, op := Op.call { callee := Callee.builtin Builtin.append, args := #[Operand.tmp 37, Operand.tmp 43], argTypes := #[82, 82] }, type := 82, pos := "ref.go:255", after := #[{ on := 8, ground := Ground.data }, { on := 14, ground := Ground.data }, { on := 8, ground := Ground.chain }], guard := none }) (by kernel_rfl) rfl (fun K hK => ?_)
  refine step_append_sl rfl (.tmp 37) (.tmp 43) 82 rfl 32 j0 (.slice none 0 0) 1 24 Try.underlying82 HJ.out HY.out HY1.out HY2.out rfl v5 (0 + a1) ([] ++ rows lxC (R.take a1)) rfl HS5.out (.slice Bv (n - b1) (c - b1)) rfl (n - b1) (rows lxC (R.drop b1)) (by have h9 := (HR.out.below HF5.out.1).inn.back HN.out HK2.out HNC.out (c - b1); rw [HBV.out] at h9; exact h9) ((HR.out.inn).part fun x hx => List.mem_of_mem_drop hx) (by unfold maxLen; omega) (by omega) ?_
  intro v6 w6 hs6 ho6 hv6
  rw [Nat.zero_add] at hs6
  have HF6 := hide (fresh_step HF5.out.1 HF5.out.2 ho6 hv6)
  have HS6 := hide hs6
  have hbx := (HR.out.below HF6.out.1).box
  have HBX := hide hbx
  have r0 := hbx.cell 0
  have r1 := hbx.frozen 0
  obtain ⟨A6, c6, rfl, _⟩ := hs6.form
  refine hK _ _ (fun _ _ => keep_box HR.out HF6.out.1) ?_
  clear hK K hs6 ho6 hv6 hbx
  try simp only [Act.put, List.setIfInBounds_toArray, List.set_cons_zero, List.set_cons_succ]
  refine wpAnyD_takeW (i := 16) (oi := { dst := some 45, op := Op.nilCheck (Operand.tmp 29), type := 0, pos := "ref.go:255", after := #[{ on := 0, ground := Ground.data }, { on := 0, ground := Ground.phase }, { on := 1, ground := Ground.phase }, { on := 2, ground := Ground.phase }, { on := 3, ground := Ground.phase }, { on := 4, ground := Ground.phase }, { on := 5, ground := Ground.phase }, { on := 6, ground := Ground.phase }, { on := 7, ground := Ground.phase }, { on := 8, ground := Ground.phase }, { on := 9, ground := Ground.phase }, { on := 10, ground := Ground.phase }, { on := 11, ground := Ground.phase }, { on := 12, ground := Ground.phase }, { on := 13, ground := Ground.phase }, { on := 14, ground := Ground.phase }, { on := 15, ground := Ground.phase }], guard := none }) (v := ?_) rfl (by kernel_rfl) (by kernel_rfl) (by kernel_rfl) (fun _ _ _ h => h) (Or.inl ⟨by rfl, ?_⟩) ?_
  rotate_left
  · intro w hSw
    clear hSw
    go_simp
    all_goals with_reducible rfl
  simp only [Act.put, List.setIfInBounds_toArray, List.set_cons_zero, List.set_cons_succ]
  refine wpAnyD_takeW (i := 17) (oi := { dst := some 46, op := Op.fieldAddr 84 (Operand.tmp 45) 0, type := 0, pos := "ref.go:255", after := #[{ on := 16, ground := Ground.data }, { on := 0, ground := Ground.phase }, { on := 1, ground := Ground.phase }, { on := 2, ground := Ground.phase }, { on := 3, ground := Ground.phase }, { on := 4, ground := Ground.phase }, { on := 5, ground := Ground.phase }, { on := 6, ground := Ground.phase }, { on := 7, ground := Ground.phase }, { on := 8, ground := Ground.phase }, { on := 9, ground := Ground.phase }, { on := 10, ground := Ground.phase }, { on := 11, ground := Ground.phase }, { on := 12, ground := Ground.phase }, { on := 13, ground := Ground.phase }, { on := 14, ground := Ground.phase }, { on := 15, ground := Ground.phase }], guard := none }) (v := ?_) rfl (by kernel_rfl) (by kernel_rfl) (by kernel_rfl) (fun _ _ _ h => h) (Or.inl ⟨by rfl, ?_⟩) ?_
  rotate_left
  · intro w hSw
    clear hSw
    go_simp
    all_goals with_reducible rfl
  simp only [Act.put, List.setIfInBounds_toArray, List.set_cons_zero, List.set_cons_succ]
  refine wpAnyD_one (i := 18) (o := { dst := none, op := Op.store 82 (Operand.tmp 46) (Operand.tmp 44), type := 0, pos := "ref.go:255", after := #[{ on := 17, ground := Ground.data }, { on := 15, ground := Ground.data }, { on := 15, ground := Ground.chain }, { on := 0, ground := Ground.phase }, { on := 1, ground := Ground.phase }, { on := 2, ground := Ground.phase }, { on := 3, ground := Ground.phase }, { on := 4, ground := Ground.phase }, { on := 5, ground := Ground.phase }, { on := 6, ground := Ground.phase }, { on := 7, ground := Ground.phase }, { on := 8, ground := Ground.phase }, { on := 9, ground := Ground.phase }, { on := 10, ground := Ground.phase }, { on := 11, ground := Ground.phase }, { on := 12, ground := Ground.phase }, { on := 13, ground := Ground.phase }, { on := 14, ground := Ground.phase }, { on := 15, ground := Ground.phase }], guard := none }) (by kernel_rfl) rfl (fun K hK => ?_)
  go_simp
  refine hK _ _ (fun h => by cases h) ?_
  clear hK K
  try simp only [Act.put, List.setIfInBounds_toArray, List.set_cons_zero, List.set_cons_succ]
  refine wpAnyD_done (by kernel_rfl) ?_ _
  go_wp2
  go_ret
  refine ⟨rfl, ⟨_, ROb.store (R' := (R.take a1 ++ R.drop b1)) H.out (H.out.bel.trans (HF6.out.1.mono H.out.bel.size)) ⟨_, HBX.out⟩ ⟨?_, fun x hx => ?_⟩ ?_ (fun x hx => ?_) (fun i hi => Nat.le_trans H.out.bel.size (HF6.out.2 i hi)) rfl, ?_⟩, (KeepT.of_below HF6.out.1).trans (keep_store HBX.out)⟩
  · have h6 := HS6.out
    have e : (R.take a1 ++ R.drop b1).length = a1 + (n - b1) := by
      have e1 := HN.out
      have e2 := HK2.out
      have e3 := HK1.out
      rw [List.length_append, List.length_take, List.length_drop]
      omega
    rw [e, rows_append]
    rw [List.nil_append] at h6
    exact h6
  · exact (HR.out.below HF6.out.1).inn.inn x ((List.mem_append.1 hx).elim List.mem_of_mem_take List.mem_of_mem_drop)
  · have e1 := HN.out
    have e2 := HR.out.len
    have e3 := HK1.out
    have e4 := HK2.out
    have e5 := HE1.out
    have e6 := HE2.out
    have e7 := HADL.out
    rw [List.length_append, List.length_take, List.length_drop]
    omega
  · exact HR.out.fit x ((List.mem_append.1 hx).elim List.mem_of_mem_take List.mem_of_mem_drop)
  · have := HDL.out a1 b1 HE1.out HE2.out
    rw [← HRL.out] at this
    unfold lsts at this ⊢
    rw [List.map_append, List.map_take, List.map_drop]
    exact this
set_option maxRecDepth 100000 in
set_option maxHeartbeats 16000000 in
theorem rdel_nil (h : ROb W w rb L) (hl : Like L P) (hg : Good P 64) {a d : Nat} (h1 : 1 ≤ a) (h2 : a ≤ d) (h3 : d ≤ 65537) (hr : RfAt w rb (.slice none 0 0) R) (hrl : lsts R = L)  : Calls Try.prog 67 #[.pointer (some ⟨rb, 0, none⟩), .int .i64 (a : Int), .int .i64 (d : Int)] w (RRes W w rb (delP a d P) (.int .i64 0)) := by
  obtain ⟨n, hn⟩ : ∃ n, n = R.length := ⟨_, rfl⟩
  obtain rfl : R = [] := hr.inn.nil_of
  obtain rfl : n = 0 := hn
  have HMA := hide (rmay_any a d w)
  rw [decide_eq_true (show mayP a d from ⟨by omega, by omega, by omega⟩)] at HMA
  obtain ⟨a0, ha0⟩ : ∃ m, a = m + 1 := ⟨a - 1, by omega⟩
  obtain ⟨d0, hd0⟩ : ∃ m, d = m + 1 := ⟨d - 1, by omega⟩
  have wa : IntKind.i64.wrap ((a : Int) - 1) = (a0 : Int) := by rw [show (a : Int) - 1 = (a0 : Int) by omega]; exact IntWalk.i64_in _ (by omega)
  have wd : IntKind.i64.wrap ((d : Int) - 1) = (d0 : Int) := by rw [show (d : Int) - 1 = (d0 : Int) by omega]; exact IntWalk.i64_in _ (by omega)
  have q1 : ∀ (w : World), (Builtin.min_ #[3, 3] 3 #[.int .i64 (a0 : Int), .int .i64 0]).run Try.prog w = .ok (.int .i64 0) w := fun w => by rw [run_min_int2]; congr 3; split <;> omega
  have q2 : ∀ (w : World), (Builtin.min_ #[3, 3] 3 #[.int .i64 (d0 : Int), .int .i64 0]).run Try.prog w = .ok (.int .i64 0) w := fun w => by rw [run_min_int2]; congr 3; split <;> omega
  have HR := hide hr
  have HRL := hide hrl
  have H := hide h
  have HL := hide hl
  have HG := hide hg
  have HDL := hide (fun (x1 x2 : Nat) (e1 : x1 = min (a - 1) L.length) (e2 : x2 = min (d - 1) L.length) => del_like hl hg h1 h2 e1 e2)
  have c0 : w.cell? ⟨rb, 0, none⟩ = some (.slice none 0 0) := hr.box.cell 0
  obtain ⟨j0, hj, hy0, hy1, hy2⟩ := info_parts info_lx
  have HJ := hide hj
  have HY := hide hy0
  have HY1 := hide hy1
  have HY2 := hide hy2
  have HLX := hide (show lsts ([] : List (List Pr × Value)) = [] from rfl)
  clear h hl hg hr hrl hj hy0 hy1 hy2 ha0 hd0 h1 h2 h3
  go_enter Try.func67, Try.ntmps67
  go_upto_region 3 with (go_at_call 70; (with_reducible refine Calls.mono HMA.out ?_); rintro r w1 ⟨rfl, rfl⟩)
  go_region
  go_upto_region 4 with fail
  have HB2 := hide ((Below.refl w.heap.size w).drew.drew)
  refine wp_region_d (S := fun y => y.cell? ⟨rb, 0, none⟩ = some (.slice none 0 0)) (D := [18]) (by kernel_rfl) ?_
  change wpAnyD _ _ _ _ _ _ _ _ _ w.drew.drew
  obtain ⟨w2, hw2⟩ : ∃ y : World, y = w.drew.drew := ⟨_, rfl⟩
  rw [← hw2] at HB2 ⊢
  clear hw2
  have hS := keep_box HR.out HB2.out
  clear c0
  refine wpAnyD_takeW (i := 0) (oi := { dst := some 29, op := Op.move (Operand.tmp 0), type := 61, pos := "ref.go:255", after := #[], guard := none }) (v := ?_) rfl (by kernel_rfl) (by kernel_rfl) (by kernel_rfl) (fun _ _ _ h => h) (Or.inl ⟨by rfl, ?_⟩) ?_
  rotate_left
  · intro w hSw
    clear hSw
    go_simp
    all_goals with_reducible rfl
  simp only [Act.put, List.setIfInBounds_toArray, List.set_cons_zero, List.set_cons_succ]
  refine wpAnyD_takeW (i := 2) (oi := { dst := some 31, op := Op.move (Operand.tmp 0), type := 61, pos := "ref.go:255", after := #[], guard := none }) (v := ?_) rfl (by kernel_rfl) (by kernel_rfl) (by kernel_rfl) (fun _ _ _ h => h) (Or.inl ⟨by rfl, ?_⟩) ?_
  rotate_left
  · intro w hSw
    clear hSw
    go_simp
    all_goals with_reducible rfl
  simp only [Act.put, List.setIfInBounds_toArray, List.set_cons_zero, List.set_cons_succ]
  refine wpAnyD_takeW (i := 3) (oi := { dst := some 32, op := Op.nilCheck (Operand.tmp 31), type := 0, pos := "ref.go:255", after := #[{ on := 2, ground := Ground.data }], guard := none }) (v := ?_) rfl (by kernel_rfl) (by kernel_rfl) (by kernel_rfl) (fun _ _ _ h => h) (Or.inl ⟨by rfl, ?_⟩) ?_
  rotate_left
  · intro w hSw
    clear hSw
    go_simp
    all_goals with_reducible rfl
  simp only [Act.put, List.setIfInBounds_toArray, List.set_cons_zero, List.set_cons_succ]
  refine wpAnyD_takeW (i := 4) (oi := { dst := some 33, op := Op.fieldAddr 84 (Operand.tmp 32) 0, type := 0, pos := "ref.go:255", after := #[{ on := 3, ground := Ground.data }], guard := none }) (v := ?_) rfl (by kernel_rfl) (by kernel_rfl) (by kernel_rfl) (fun _ _ _ h => h) (Or.inl ⟨by rfl, ?_⟩) ?_
  rotate_left
  · intro w hSw
    clear hSw
    go_simp
    all_goals with_reducible rfl
  simp only [Act.put, List.setIfInBounds_toArray, List.set_cons_zero, List.set_cons_succ]
  refine wpAnyD_take (i := 5) (oi := { dst := some 34, op := Op.load 82 (Operand.tmp 33), type := 82, pos := "ref.go:255", after := #[{ on := 4, ground := Ground.data }], guard := none }) (v := ?_) rfl (by kernel_rfl) (by kernel_rfl) (by kernel_rfl) (by kernel_rfl) (by kernel_rfl) (fun _ _ _ h => h) (Or.inl ⟨by rfl, ?_⟩) hS ?_
  rotate_left
  · intro w hSw
    have s0 := hSw
    go_simp
    all_goals with_reducible rfl
  simp only [Act.put, List.setIfInBounds_toArray, List.set_cons_zero, List.set_cons_succ]
  refine wpAnyD_takeW (i := 6) (oi := { dst := some 35, op := Op.move (Operand.tmp 7), type := 3, pos := "ref.go:255", after := #[], guard := none }) (v := ?_) rfl (by kernel_rfl) (by kernel_rfl) (by kernel_rfl) (fun _ _ _ h => h) (Or.inl ⟨by rfl, ?_⟩) ?_
  rotate_left
  · intro w hSw
    clear hSw
    go_simp
    all_goals with_reducible rfl
  simp only [Act.put, List.setIfInBounds_toArray, List.set_cons_zero, List.set_cons_succ]
  refine wpAnyD_takeW (i := 7) (oi := { dst := some 36, op := Op.slice 82 (Operand.tmp 34) none (some (Operand.tmp 35)) none, type := 82, pos := "ref.go:255", after := #[{ on := 5, ground := Ground.data }, { on := 6, ground := Ground.data }], guard := none }) (v := ?_) rfl (by kernel_rfl) (by kernel_rfl) (by kernel_rfl) (fun _ _ _ h => h) (Or.inl ⟨by rfl, ?_⟩) ?_
  rotate_left
  · intro w hSw
    clear hSw
    go_simp
    all_goals with_reducible rfl
  simp only [Act.put, List.setIfInBounds_toArray, List.set_cons_zero, List.set_cons_succ]
  refine wpAnyD_takeW (i := 9) (oi := { dst := some 38, op := Op.move (Operand.tmp 0), type := 61, pos := "ref.go:255", after := #[], guard := none }) (v := ?_) rfl (by kernel_rfl) (by kernel_rfl) (by kernel_rfl) (fun _ _ _ h => h) (Or.inl ⟨by rfl, ?_⟩) ?_
  rotate_left
  · intro w hSw
    clear hSw
    go_simp
    all_goals with_reducible rfl
  simp only [Act.put, List.setIfInBounds_toArray, List.set_cons_zero, List.set_cons_succ]
  refine wpAnyD_takeW (i := 10) (oi := { dst := some 39, op := Op.nilCheck (Operand.tmp 38), type := 0, pos := "ref.go:255", after := #[{ on := 9, ground := Ground.data }], guard := none }) (v := ?_) rfl (by kernel_rfl) (by kernel_rfl) (by kernel_rfl) (fun _ _ _ h => h) (Or.inl ⟨by rfl, ?_⟩) ?_
  rotate_left
  · intro w hSw
    clear hSw
    go_simp
    all_goals with_reducible rfl
  simp only [Act.put, List.setIfInBounds_toArray, List.set_cons_zero, List.set_cons_succ]
  refine wpAnyD_takeW (i := 11) (oi := { dst := some 40, op := Op.fieldAddr 84 (Operand.tmp 39) 0, type := 0, pos := "ref.go:255", after := #[{ on := 10, ground := Ground.data }], guard := none }) (v := ?_) rfl (by kernel_rfl) (by kernel_rfl) (by kernel_rfl) (fun _ _ _ h => h) (Or.inl ⟨by rfl, ?_⟩) ?_
  rotate_left
  · intro w hSw
    clear hSw
    go_simp
    all_goals with_reducible rfl
  simp only [Act.put, List.setIfInBounds_toArray, List.set_cons_zero, List.set_cons_succ]
  refine wpAnyD_take (i := 12) (oi := { dst := some 41, op := Op.load 82 (Operand.tmp 40), type := 82, pos := "ref.go:255", after := #[{ on := 11, ground := Ground.data }], guard := none }) (v := ?_) rfl (by kernel_rfl) (by kernel_rfl) (by kernel_rfl) (by kernel_rfl) (by kernel_rfl) (fun _ _ _ h => h) (Or.inl ⟨by rfl, ?_⟩) hS ?_
  rotate_left
  · intro w hSw
    have s0 := hSw
    go_simp
    all_goals with_reducible rfl
  simp only [Act.put, List.setIfInBounds_toArray, List.set_cons_zero, List.set_cons_succ]
  refine wpAnyD_takeW (i := 13) (oi := { dst := some 42, op := Op.move (Operand.tmp 8), type := 3, pos := "ref.go:255", after := #[], guard := none }) (v := ?_) rfl (by kernel_rfl) (by kernel_rfl) (by kernel_rfl) (fun _ _ _ h => h) (Or.inl ⟨by rfl, ?_⟩) ?_
  rotate_left
  · intro w hSw
    clear hSw
    go_simp
    all_goals with_reducible rfl
  simp only [Act.put, List.setIfInBounds_toArray, List.set_cons_zero, List.set_cons_succ]
  refine wpAnyD_takeW (i := 14) (oi := { dst := some 43, op := Op.slice 82 (Operand.tmp 41) (some (Operand.tmp 42)) none none, type := 82, pos := "ref.go:255", after := #[{ on := 12, ground := Ground.data }, { on := 13, ground := Ground.data }], guard := none }) (v := ?_) rfl (by kernel_rfl) (by kernel_rfl) (by kernel_rfl) (fun _ _ _ h => h) (Or.inl ⟨by rfl, ?_⟩) ?_
  rotate_left
  · intro w hSw
    clear hSw
    go_simp
    all_goals with_reducible rfl
  simp only [Act.put, List.setIfInBounds_toArray, List.set_cons_zero, List.set_cons_succ]
  clear hS
  refine wpAnyD_one (i := 1) (o := { dst := some 30, op := Op.buildSlice 82 0 #[], type := 82, pos := "ref.go:255", after := #[], guard := none }) (by kernel_rfl) rfl (fun K hK => ?_)
  go_simp
  have HBA := hide (show Below w.heap.size w (w2.alloc (.cells #[] 32)) from HB2.out.alloc HB2.out.size _)
  have HS4 := hide (show Sl (w2.alloc (.cells #[] 32)) 32 1 (.slice (some ⟨w2.heap.size, 0, none⟩) 0 0) 0 [] by simpa using Sl.new w2 32 1 #[] 0 0 (Nat.le_refl _) (by simp [maxLen]) (by simp))
  refine hK _ _ (fun _ _ => keep_box HR.out HBA.out) ?_
  clear hK K
  try simp only [Act.put, List.setIfInBounds_toArray, List.set_cons_zero, List.set_cons_succ]
  refine wpAnyD_one (i := 8) (o := { dst := some 37, op := Op.call { callee := Callee.builtin Builtin.append, args := #[Operand.tmp 30, Operand.tmp 36], argTypes := #[82, 82] }, type := 82, pos := "ref.go:255", after := #[{ on := 1, ground := Ground.data }, { on := 7, ground := Ground.data }], guard := none }) (by kernel_rfl) rfl (fun K hK => ?_)
  refine step_append_sl rfl (.tmp 30) (.tmp 36) 82 rfl 32 j0 (.slice none 0 0) 1 24 Try.underlying82 HJ.out HY.out HY1.out HY2.out rfl (.slice (some ⟨w2.heap.size, 0, none⟩) 0 0) 0 [] rfl HS4.out (.slice none 0 0) rfl 0 [] (Rd.nil _ _) (fun u hu => by cases hu) (by unfold maxLen; omega) (by omega) ?_
  intro v5 w5 hs5 ho5 hv5
  have HS5 := hide hs5
  have HF5 := hide (fresh_step HBA.out (by intro i hi; cases hi; exact HB2.out.size) ho5 hv5)
  refine hK _ _ (fun _ _ => keep_box HR.out HF5.out.1) ?_
  clear hK K hs5 ho5 hv5
  try simp only [Act.put, List.setIfInBounds_toArray, List.set_cons_zero, List.set_cons_succ]
  refine wpAnyD_one (i := 15) (o := { dst := some 44, op := Op.call { callee := Callee.builtin Builtin.append, args := #[Operand.tmp 37, Operand.tmp 43], argTypes := #[82, 82] }, type := 82, pos := "ref.go:255", after := #[{ on := 8, ground := Ground.data }, { on := 14, ground := Ground.data }, { on := 8, ground := Ground.chain }], guard := none }) (by kernel_rfl) rfl (fun K hK => ?_)
  refine step_append_sl rfl (.tmp 37) (.tmp 43) 82 rfl 32 j0 (.slice none 0 0) 1 24 Try.underlying82 HJ.out HY.out HY1.out HY2.out rfl v5 (0 + 0) ([] ++ []) rfl HS5.out (.slice none 0 0) rfl 0 [] (Rd.nil _ _) (fun u hu => by cases hu) (by unfold maxLen; omega) (by omega) ?_
  intro v6 w6 hs6 ho6 hv6
  have HF6 := hide (fresh_step HF5.out.1 HF5.out.2 ho6 hv6)
  have HS6 := hide hs6
  have hbx := (HR.out.below HF6.out.1).box
  have HBX := hide hbx
  have r0 := hbx.cell 0
  have r1 := hbx.frozen 0
  obtain ⟨A6, c6, rfl, _⟩ := hs6.form
  refine hK _ _ (fun _ _ => keep_box HR.out HF6.out.1) ?_
  clear hK K hs6 ho6 hv6 hbx
  try simp only [Act.put, List.setIfInBounds_toArray, List.set_cons_zero, List.set_cons_succ]
  refine wpAnyD_takeW (i := 16) (oi := { dst := some 45, op := Op.nilCheck (Operand.tmp 29), type := 0, pos := "ref.go:255", after := #[{ on := 0, ground := Ground.data }, { on := 0, ground := Ground.phase }, { on := 1, ground := Ground.phase }, { on := 2, ground := Ground.phase }, { on := 3, ground := Ground.phase }, { on := 4, ground := Ground.phase }, { on := 5, ground := Ground.phase }, { on := 6, ground := Ground.phase }, { on := 7, ground := Ground.phase }, { on := 8, ground := Ground.phase }, { on := 9, ground := Ground.phase }, { on := 10, ground := Ground.phase }, { on := 11, ground := Ground.phase }, { on := 12, ground := Ground.phase }, { on := 13, ground := Ground.phase }, { on := 14, ground := Ground.phase }, { on := 15, ground := Ground.phase }], guard := none }) (v := ?_) rfl (by kernel_rfl) (by kernel_rfl) (by kernel_rfl) (fun _ _ _ h => h) (Or.inl ⟨by rfl, ?_⟩) ?_
  rotate_left
  · intro w hSw
    clear hSw
    go_simp
    all_goals with_reducible rfl
  simp only [Act.put, List.setIfInBounds_toArray, List.set_cons_zero, List.set_cons_succ]
  refine wpAnyD_takeW (i := 17) (oi := { dst := some 46, op := Op.fieldAddr 84 (Operand.tmp 45) 0, type := 0, pos := "ref.go:255", after := #[{ on := 16, ground := Ground.data }, { on := 0, ground := Ground.phase }, { on := 1, ground := Ground.phase }, { on := 2, ground := Ground.phase }, { on := 3, ground := Ground.phase }, { on := 4, ground := Ground.phase }, { on := 5, ground := Ground.phase }, { on := 6, ground := Ground.phase }, { on := 7, ground := Ground.phase }, { on := 8, ground := Ground.phase }, { on := 9, ground := Ground.phase }, { on := 10, ground := Ground.phase }, { on := 11, ground := Ground.phase }, { on := 12, ground := Ground.phase }, { on := 13, ground := Ground.phase }, { on := 14, ground := Ground.phase }, { on := 15, ground := Ground.phase }], guard := none }) (v := ?_) rfl (by kernel_rfl) (by kernel_rfl) (by kernel_rfl) (fun _ _ _ h => h) (Or.inl ⟨by rfl, ?_⟩) ?_
  rotate_left
  · intro w hSw
    clear hSw
    go_simp
    all_goals with_reducible rfl
  simp only [Act.put, List.setIfInBounds_toArray, List.set_cons_zero, List.set_cons_succ]
  refine wpAnyD_one (i := 18) (o := { dst := none, op := Op.store 82 (Operand.tmp 46) (Operand.tmp 44), type := 0, pos := "ref.go:255", after := #[{ on := 17, ground := Ground.data }, { on := 15, ground := Ground.data }, { on := 15, ground := Ground.chain }, { on := 0, ground := Ground.phase }, { on := 1, ground := Ground.phase }, { on := 2, ground := Ground.phase }, { on := 3, ground := Ground.phase }, { on := 4, ground := Ground.phase }, { on := 5, ground := Ground.phase }, { on := 6, ground := Ground.phase }, { on := 7, ground := Ground.phase }, { on := 8, ground := Ground.phase }, { on := 9, ground := Ground.phase }, { on := 10, ground := Ground.phase }, { on := 11, ground := Ground.phase }, { on := 12, ground := Ground.phase }, { on := 13, ground := Ground.phase }, { on := 14, ground := Ground.phase }, { on := 15, ground := Ground.phase }], guard := none }) (by kernel_rfl) rfl (fun K hK => ?_)
  go_simp
  refine hK _ _ (fun h => by cases h) ?_
  clear hK K
  try simp only [Act.put, List.setIfInBounds_toArray, List.set_cons_zero, List.set_cons_succ]
  refine wpAnyD_done (by kernel_rfl) ?_ _
  go_wp2
  go_ret
  refine ⟨rfl, ⟨_, ROb.store (R' := ([] : List (List Pr × Value))) H.out (H.out.bel.trans (HF6.out.1.mono H.out.bel.size)) ⟨_, HBX.out⟩ ⟨?_, fun x hx => ?_⟩ ?_ (fun x hx => ?_) (fun i hi => Nat.le_trans H.out.bel.size (HF6.out.2 i hi)) rfl, ?_⟩, (KeepT.of_below HF6.out.1).trans (keep_store HBX.out)⟩
  · simpa [rows] using HS6.out
  · cases hx
  · simp
  · cases hx
  · have := HDL.out 0 0 (by rw [← HRL.out]; simp [lsts]) (by rw [← HRL.out]; simp [lsts])
    rw [← HRL.out] at this
    simpa [lsts] using this
theorem rDeleted_any (h : ROb W w rb L) (hl : Like L P) (hg : Good P 64) (fr en : Int) : Calls Try.prog 67 #[.pointer (some ⟨rb, 0, none⟩), .int .i64 fr, .int .i64 en] w (RRes W w rb (delQ P fr en) (.int .i64 (delE fr en))) := by
  by_cases hm : 1 ≤ fr ∧ fr ≤ en ∧ en ≤ 65537
  · have e1 : delE fr en = 0 := if_pos hm
    have e2 : delQ P fr en = delP fr.toNat en.toNat P := if_pos hm
    rw [e1, e2]
    obtain ⟨m1, m2, m3⟩ := hm
    obtain ⟨a, rfl⟩ : ∃ y : Nat, fr = (y : Int) := ⟨fr.toNat, by omega⟩
    obtain ⟨d, rfl⟩ : ∃ y : Nat, en = (y : Int) := ⟨en.toNat, by omega⟩
    rw [Int.toNat_natCast, Int.toNat_natCast]
    obtain ⟨v, R, hr, hrl, _⟩ := h.ex
    rcases hr.inn.row.2 with ⟨rfl, _⟩ | ⟨g, off, c, cs, rfl, _, hnc, hcm, _⟩
    · exact rdel_nil h hl hg (by omega) (by omega) (by omega) hr hrl
    · exact rdel_some h hl hg (by omega) (by omega) (by omega) hr hrl rfl hnc hcm
  · have e1 : delE fr en = 3 := if_neg hm
    have e2 : delQ P fr en = P := if_neg hm
    rw [e1, e2]
    have HMA := hide (rmay_any fr en w)
    rw [decide_eq_false (show ¬ mayP fr en from hm)] at HMA
    have HS := hide (fun (y : World) (hb : Below w.heap.size w y) => RRes.same h hl hb)
    clear h hl hg hm e1 e2
    go_enter Try.func67, Try.ntmps67
    go_wp2_with (go_at_call 70; (with_reducible refine Calls.mono HMA.out ?_); rintro r w1 ⟨rfl, rfl⟩)
    go_ret
    exact ⟨rfl, HS.out _ (Below.refl _ _)⟩
end
end Go.Proofs.Ytgiogmbopiblmaa
