/- append of zeros to a slice of ours; Own at bool and Word; an object beside a slice of another type. No condition but those written. -/
import Derived.Test.YtgiogmbopiblmaaPqv
import Derived.Lib.AppendZerosOnto
namespace Go.Proofs.Ytgiogmbopiblmaa
open Go.RowKit

theorem run_append_zeros_sl {P : Program} (w : World) (t tn ty e : TypeId) (i : TypeInfo) (z : Value) (k bytes : Nat) (kq kn : IntKind) (ht : P.underlying t = some (.slice e)) (htn : P.underlying tn = some (.int kn)) (hi : P.info? e = some i) (hz : i.zero = some z)
    (hsize : i.size = k) (hby : i.bytes = bytes) (hzs : z.cells.size = k) (hk : 0 < k) (v : Value) (n : Nat) (xs : List Value) (h : Sl w e k v n xs)
    (m : Nat) (h1 : ∀ u ∈ (Builtin.zeroCells z.cells m).toList, u.oneCell' = true) (h63 : n + m ≤ maxLen) (hbytes : (n + m) * bytes ≤ 140737488355328) :
    ∃ v' w', (Builtin.append_ #[t, tn] ty #[v, .int kq (m : Int)]).run P w = .ok v' w' ∧ Sl w' e k v' (n + m) (xs ++ (Builtin.zeroCells z.cells m).toList) ∧ Only (fun b => v.ownBlock = some b) w w' ∧ (v'.ownBlock = v.ownBlock ∨ v'.ownBlock = some w.heap.size) := by
  subst hsize hby
  have hzl : (Builtin.zeroCells z.cells m).toList.length = m * i.size := by rw [Array.length_toList, size_zeroCells, hzs]
  have hsmall : n + m ≤ 9223372036854775807 := by simp only [maxLen] at h63; omega
  have hw : IntKind.i64.wrap (m : Int) = m := by rw [IntKind.wrap_i64]; omega
  have hmb : m * i.bytes ≤ (n + m) * i.bytes := Nat.mul_le_mul_right _ (by omega)
  have h48i : ¬ (281474976710656 < (m : Int) * (i.bytes : Int)) := by
    rw [← Int.natCast_mul]
    omega
  have hneg : ¬ ((m : Int) < 0) := by omega
  have hlen : (xs ++ (Builtin.zeroCells z.cells m).toList).length = (n + m) * i.size := by rw [List.length_append, h.1, hzl, Nat.add_mul]
  rcases Nat.eq_zero_or_pos m with rfl | hm
  · obtain ⟨A', c', rfl, hnc, _⟩ := h.form
    have hz0 : (Builtin.zeroCells z.cells 0).toList = [] := List.eq_nil_of_length_eq_zero (by rw [hzl, Nat.zero_mul])
    refine ⟨.slice A' n c', w, ?_, by rw [hz0]; simpa using h, Only.refl _ _, .inl rfl⟩
    have hw0 : IntKind.i64.wrap 0 = 0 := by rw [IntKind.wrap_i64]; rfl
    cases A' <;> simp [Builtin.append_, run_underlying ht, run_underlying htn, sizeOf, typeInfo, zeroValue, hi, hz, asInt, asIntOf, hw0, hnc, storeCells]
  · have hns : ¬ (m * i.size = 0) := Nat.mul_ne_zero (by omega) (by omega)
    have grown : ∀ old : Nat, old < n + m → Sl (w.drew.alloc (.cells (xs.toArray ++ Builtin.zeroCells z.cells m ++ Builtin.zeroCells z.cells (grownCap w (n + m) old e - (n + m))) e)) e i.size
        (.slice (some ⟨w.heap.size, 0, none⟩) (n + m) (grownCap w (n + m) old e)) (n + m) (xs ++ (Builtin.zeroCells z.cells m).toList) := by
      intro old ho
      have hge := grownCap_ge w (n + m) old e
      have hcm := grownCap_le_maxLen w (n + m) old e h63
      refine ⟨hlen, .inr ⟨w.heap.size, 0, _, _, rfl, heap_alloc_new w.drew _, hge, hcm, ?_, ?_⟩⟩
      · simp only [Array.size_append, List.size_toArray, size_zeroCells, hzs, h.1, ← Nat.add_mul, Nat.zero_add]
        apply Nat.le_of_eq
        congr 1
        omega
      · simp only [Array.toList_append, List.append_assoc, List.drop_zero]
        rw [← List.append_assoc, ← hlen]
        exact List.take_left
    have honly : ∀ (o : Go.Obj) (F : Nat → Prop), Only F w (w.drew.alloc o) := fun o F => (Only.refl F w).drew.alloc o
    rcases h.2 with ⟨rfl, rfl⟩ | ⟨g, o, cap, cs, rfl, hg, hnc, hcm, hfit, htake⟩
    · have hx : xs = [] := List.eq_nil_of_length_eq_zero (by simpa using h.1)
      subst hx
      have hr := Lib.run_append_grow_zeros (P := P) w t tn ty e i z kq kn ht htn hi hz none 0 0 [] (by simp [Builtin.firstCells]) m hm hk (by omega) (by omega) (by omega) (growslice_fits (by omega) hbytes)
      exact ⟨_, _, hr, grown 0 (by omega), honly _ _, .inr rfl⟩
    · by_cases hroom : n + m ≤ cap
      · have hfit' : (o + n * i.size) + (Builtin.zeroCells z.cells m).toList.length ≤ cs.size := by
          have : (n + m) * i.size ≤ cap * i.size := Nat.mul_le_mul_right _ hroom
          rw [Nat.add_mul] at this
          omega
        have hst := run_storeCells_at P g (o + n * i.size) e (Builtin.zeroCells z.cells m).toList 0 cs w hg (by simpa using hfit') h1
        simp only [Nat.add_zero] at hst
        refine ⟨.slice (some ⟨g, o, none⟩) (n + m) cap, w.setRow g (cs.toList.take (o + n * i.size) ++ (Builtin.zeroCells z.cells m).toList ++ cs.toList.drop (o + n * i.size + (Builtin.zeroCells z.cells m).toList.length)).toArray, ?_, ⟨hlen, .inr ⟨g, o, cap, _, rfl, setRow_heap w g cs _ e _ hg, hroom, hcm, ?_, ?_⟩⟩, ⟨rfl, rfl, rfl, by simp, fun q _ hq => setRow_other w g q _ (fun e => hq (by simp [Value.ownBlock, e]))⟩, .inl rfl⟩
        · simp [Builtin.append_, run_underlying ht, run_underlying htn, sizeOf, typeInfo, zeroValue, hi, hz, asInt, asIntOf, hw, hneg, hns, h48i, hroom, Addr.add_lit, hst]
        · simp only [List.size_toArray, List.length_append, List.length_take, List.length_drop, Array.length_toList] at hfit' ⊢
          omega
        · have h0 : o ≤ cs.toList.length := by
            have : 0 ≤ cap * i.size := Nat.zero_le _
            simp only [Array.length_toList]
            omega
          have e1 : cs.toList.take (o + n * i.size) = cs.toList.take o ++ xs := by rw [List.take_add, htake]
          simp only [Array.length_toList] at h0
          rw [e1, List.append_assoc, List.append_assoc, List.drop_append_of_le_length (by simp; omega), List.drop_eq_nil_of_le (by simp; omega)]
          rw [List.nil_append, ← List.append_assoc, ← hlen]
          exact List.take_left
      · have holds : ∀ j u, xs[j]? = some u → w.drew.cell? ((⟨g, o, none⟩ : Addr).add j) = some u := by
          intro j u hu
          rw [Addr.add_lit, cell_of_row w.drew g (o + j) cs e (0, 0) hg]
          rw [← htake, List.getElem?_take] at hu
          split at hu
          · simpa [List.getElem?_drop] using hu
          · cases hu
        have hf := run_firstCells_some (P := P) w.drew i.size n ⟨g, o, none⟩ n cap xs h.1 holds
        have hr := Lib.run_append_grow_zeros (P := P) w t tn ty e i z kq kn ht htn hi hz (some ⟨g, o, none⟩) n cap xs hf m hm hk (by omega) (by omega) (by omega) (growslice_fits (by omega) hbytes)
        exact ⟨_, _, hr, grown cap (by omega), honly _ _, .inr rfl⟩
theorem below_dN {B : Nat} {a w : World} (h : Below B a w) (n : Nat) : Below B a (w.drewN n) := ⟨h.os, h.tape, h.output, h.size, h.block⟩
/-- The cells of a bool, and of a word. -/
def boC (b : Bool) : List Value := [.bool b]
def woC (v : Int × Int) : List Value := [.int .i64 v.1, .int .i64 v.2]
theorem boC_len (b : Bool) : (boC b).length = 1 := rfl
theorem woC_len (v : Int × Int) : (woC v).length = 2 := rfl
theorem boC_one (L : List Bool) : ∀ u ∈ rows boC L, u.oneCell' = true := by
  intro u hu
  obtain ⟨b, _, hb⟩ := List.mem_flatMap.1 hu
  simp [boC] at hb
  rw [hb]
  rfl
theorem woC_one (L : List (Int × Int)) : ∀ u ∈ rows woC L, u.oneCell' = true := by
  intro u hu
  obtain ⟨b, _, hb⟩ := List.mem_flatMap.1 hu
  simp [woC] at hb
  rcases hb with rfl | rfl <;> rfl
theorem zero_rows {α : Type} {enc : α → List Value} {z : Value} {y : α} (hz : z.cells.toList = enc y) (hp : 0 < (enc y).length) (m : Nat) : (Builtin.zeroCells z.cells m).toList = rows enc (List.replicate m y) := by
  have hs : z.cells.size = (enc y).length := by rw [← hz, Array.length_toList]
  have e2 : rows (fun _ : α => enc y) (List.replicate m y) = rows enc (List.replicate m y) := by
    unfold rows
    induction m with
    | zero => rfl
    | succ m ih => rw [List.replicate_succ, List.flatMap_cons, List.flatMap_cons, ih]
  have h1 : (rows enc (List.replicate m y)).length = m * (enc y).length := by rw [← e2, rows_len (k := (enc y).length) (fun _ => rfl), List.length_replicate]
  apply List.ext_getElem?
  intro j
  unfold Builtin.zeroCells
  simp only [Array.toList_map, Array.toList_range, List.getElem?_map]
  by_cases hj : j < m * z.cells.size
  · have hmod : j % z.cells.size < z.cells.size := Nat.mod_lt _ (by omega)
    have hdm : j / (enc y).length * (enc y).length + j % (enc y).length = j := by rw [Nat.mul_comm]; exact Nat.div_add_mod j _
    have e := rows_at (k := (enc y).length) (enc := fun _ : α => enc y) (fun _ => rfl) (List.replicate m y) (j / (enc y).length) (j % (enc y).length) y (by
      rw [List.getElem?_replicate, if_pos (Nat.div_lt_of_lt_mul (by rw [Nat.mul_comm, ← hs]; exact hj))]) (by rw [← hs]; exact hmod)
    rw [hdm] at e
    rw [← e2, e, List.getElem?_range hj, ← hz, Array.length_toList, Array.getElem?_toList, Array.getElem?_eq_getElem hmod, Option.map_some, getElem!_pos z.cells _ hmod]
  · rw [List.getElem?_eq_none (by simpa using Nat.le_of_not_lt hj), List.getElem?_eq_none (by rw [h1, ← hs]; omega)]
    rfl
theorem info_bo : (Try.prog.info? 4).map (fun i => (i.zero, i.size, i.bytes)) = some (some (.bool false), 1, 1) := by kernel_rfl
theorem info_wo : (Try.prog.info? 29).map (fun i => (i.zero, i.size, i.bytes)) = some (some (.agg #[.int .i64 0, .int .i64 0]), 2, 16) := by kernel_rfl
/-- A slice of a call's own. -/
def FreshT (w : World) (T k n : Nat) (xs : List Value) (e : Ending) (w' : World) : Prop := ∃ v, e = .returned v ∧ Sl w' T k v n xs ∧ (∃ g, v.ownBlock = some g ∧ w.heap.size ≤ g) ∧ Below w.heap.size w w'
set_option maxRecDepth 100000 in
set_option maxHeartbeats 2000000 in
theorem own_bools (v : Value) (n : Nat) (xs : List Value) (w : World) (h : Rd w v 1 n xs) (hx : ∀ u ∈ xs, u.oneCell' = true) (hN : n ≤ 1000000) :
    Calls Try.prog 24 #[v] w (FreshT w 4 1 n xs) := by
  obtain ⟨i0, hi, hz0, hz1, hz2⟩ := info_parts info_bo
  obtain ⟨A, c, rfl, _, _⟩ := id h
  have he := Sl.new w 4 1 #[] 0 0 (Nat.le_refl _) (by simp [maxLen]) (by simp)
  have he2 : Sl (w.alloc (.cells #[] 4)) 4 1 (.slice (some ⟨w.heap.size, 0, none⟩) 0 0) 0 [] := by simpa using he
  have hB : Below w.heap.size w (w.alloc (.cells #[] 4)) := (Below.refl _ _).alloc (Nat.le_refl _) _
  have hr : Rd (w.alloc (.cells #[] 4)) (.slice A n c) 1 n xs := h.only (Only.of_below hB) fun _ _ f => f
  go_enter Try.func24, Try.ntmps24
  go_wp2_with (at_builtin; refine wpList_append_sl rfl (.tmp 3) (.tmp 4) 46 rfl 4 i0 (.bool false) 1 1 Try.underlying46 hi hz0 hz1 hz2 rfl _ 0 [] rfl he2 _ rfl n xs hr hx ?b1 ?b2 ?_)
  case b1 => unfold maxLen; omega
  case b2 => omega
  intro v' w' hsl honly hv'
  have HB := hide (hB.trans (honly.below (B := w.heap.size) (by simp) fun i hi => by simp [Value.ownBlock] at hi; omega))
  have HS := hide (show Sl w' 4 1 v' n xs by simpa using hsl)
  have HG := hide (show ∃ g, v'.ownBlock = some g ∧ w.heap.size ≤ g from by
    rcases hv' with e | e <;> rw [e] <;> exact ⟨_, rfl, by simp⟩)
  obtain ⟨A', c', rfl, _⟩ := hsl.form
  clear hsl honly hv' hB he h
  go_wp2
  go_ret
  exact ⟨_, rfl, by simpa using HS.out, HG.out, HB.out⟩
set_option maxRecDepth 100000 in
set_option maxHeartbeats 2000000 in
theorem own_words (v : Value) (n : Nat) (xs : List Value) (w : World) (h : Rd w v 2 n xs) (hx : ∀ u ∈ xs, u.oneCell' = true) (hN : n ≤ 1000000) :
    Calls Try.prog 25 #[v] w (FreshT w 29 2 n xs) := by
  obtain ⟨i0, hi, hz0, hz1, hz2⟩ := info_parts info_wo
  obtain ⟨A, c, rfl, _, _⟩ := id h
  have he := Sl.new w 29 2 #[] 0 0 (Nat.le_refl _) (by simp [maxLen]) (by simp)
  have he2 : Sl (w.alloc (.cells #[] 29)) 29 2 (.slice (some ⟨w.heap.size, 0, none⟩) 0 0) 0 [] := by simpa using he
  have hB : Below w.heap.size w (w.alloc (.cells #[] 29)) := (Below.refl _ _).alloc (Nat.le_refl _) _
  have hr : Rd (w.alloc (.cells #[] 29)) (.slice A n c) 2 n xs := h.only (Only.of_below hB) fun _ _ f => f
  go_enter Try.func25, Try.ntmps25
  go_wp2_with (at_builtin; refine wpList_append_sl rfl (.tmp 3) (.tmp 4) 47 rfl 29 i0 (.agg #[.int .i64 0, .int .i64 0]) 2 16 Try.underlying47 hi hz0 hz1 hz2 rfl _ 0 [] rfl he2 _ rfl n xs hr hx ?b1 ?b2 ?_)
  case b1 => unfold maxLen; omega
  case b2 => omega
  intro v' w' hsl honly hv'
  have HB := hide (hB.trans (honly.below (B := w.heap.size) (by simp) fun i hi => by simp [Value.ownBlock] at hi; omega))
  have HS := hide (show Sl w' 29 2 v' n xs by simpa using hsl)
  have HG := hide (show ∃ g, v'.ownBlock = some g ∧ w.heap.size ≤ g from by
    rcases hv' with e | e <;> rw [e] <;> exact ⟨_, rfl, by simp⟩)
  obtain ⟨A', c', rfl, _⟩ := hsl.form
  clear hsl honly hv' hB he h
  go_wp2
  go_ret
  exact ⟨_, rfl, by simpa using HS.out, HG.out, HB.out⟩
/-- A store into a slice of another type leaves the object. -/
theorem Obj.besideT {W w w' : World} {b k n : Nat} {P : List Pc} {T : TypeId} {v : Value} {xs : List Value} (h : Obj W w b P) (hs : Sl w T k v n xs) (h1 : T ≠ 69) (h2 : T ≠ 73) (h3 : T ≠ 36) (ho : Only (fun g => v.ownBlock = some g) w w') (hv : ∀ g, v.ownBlock = some g → W.heap.size ≤ g) : Obj W w' b P := by
  obtain ⟨⟨sv, L, p1, p2, p3⟩, p4⟩ := h
  refine ⟨⟨sv, L, p1.frame ho ?_ fun g hg u q hu e => Sl.apart hu hs (fun e => h3 e.symm) g e hg, p2, p3⟩, p4.trans (ho.below p4.size hv)⟩
  rintro g (rfl | hg) hf
  · exact Sl.ne_blk hs p1.box h1 hf
  · exact Sl.apart p1.inn.row hs (fun e => h2 e.symm) g hg hf
/-- append of zeros as one step of a region that draws. -/
theorem step_zeros_sl {P : Program} {ops : Array Oper} {o : Oper} {a : Act} {w : World} {K : Act → World → Prop} {Q : Exit → Act → World → Prop} {E : Prop} (hg : o.guard = none) (s x : Operand) (t tn : TypeId)
    (ho : o.op = .call { callee := .builtin .append, args := #[s, x], argTypes := #[t, tn] })
    (e : TypeId) (i : TypeInfo) (z : Value) (k bytes : Nat) (kq kn : IntKind) (ht : P.underlying t = some (.slice e)) (htn : P.underlying tn = some (.int kn)) (hi : P.info? e = some i) (hz : i.zero = some z)
    (hsize : i.size = k) (hby : i.bytes = bytes) (hzs : z.cells.size = k) (hk : 0 < k) (v : Value) (n : Nat) (xs : List Value) (hs : a.eval s = v) (h : Sl w e k v n xs)
    (m : Nat) (hx : a.eval x = .int kq (m : Int)) (h1 : ∀ u ∈ (Builtin.zeroCells z.cells m).toList, u.oneCell' = true) (h63 : n + m ≤ maxLen) (hbytes : (n + m) * bytes ≤ 140737488355328)
    (hK : ∀ v' w', Sl w' e k v' (n + m) (xs ++ (Builtin.zeroCells z.cells m).toList) → Only (fun b => v.ownBlock = some b) w w' → (v'.ownBlock = v.ownBlock ∨ v'.ownBlock = some w.heap.size) → K (a.put o.dst v') w') :
    if Region.wanted o (yielded ops a.tmps) = true then Oper.wp P o a w K Q else E := by
  have hw : Region.wanted o (yielded ops a.tmps) = true := by simp [Region.wanted, hg]
  rw [if_pos hw]
  obtain ⟨v', w', hrun, h2, h3, h4⟩ := run_append_zeros_sl (P := P) w t tn o.type e i z k bytes kq kn ht htn hi hz hsize hby hzs hk v n xs h m h1 h63 hbytes
  unfold Oper.wp execOp
  simp only [ho, resolve, invoke, builtin, Sem.run_bind, Sem.run_pure, Result.andThen_ok, List.map_toArray, List.map_cons, List.map_nil, hs, hx, hrun]
  exact hK v' w' h2 h3 h4
theorem bo_set (H : List Bool) (j : Nat) (x : Bool) : (rows boC H).set j (.bool x) = rows boC (H.set j x) := by
  have e : ∀ L : List Bool, rows boC L = L.map Value.bool := fun L => by
    unfold rows boC
    induction L with
    | nil => rfl
    | cons a L ih => rw [List.flatMap_cons, ih]; rfl
  rw [e, e, List.map_set]
theorem wo_set : ∀ (V : List (Int × Int)) (j : Nat) (x : Int × Int), ((rows woC V).set (j * 2) (.int .i64 x.1)).set (j * 2 + 1) (.int .i64 x.2) = rows woC (V.set j x)
  | [], _, _ => rfl
  | y :: V, 0, x => by simp [rows, woC]
  | y :: V, j + 1, x => by
      have ih := wo_set V j x
      unfold rows at ih ⊢
      rw [List.set_cons_succ, List.flatMap_cons, List.flatMap_cons, ← ih, show (j + 1) * 2 = j * 2 + 1 + 1 by omega]
      rfl
/-- The object and the law's two lists. -/
structure LsM (W w : World) (b : Nat) (P : List Pc) (H : List Bool) (V : List (Int × Int)) (hv vv : Value) (n : Nat) : Prop where
  ob : Obj W w b P
  hn : H.length = n
  vn : V.length = n
  sh : Sl w 4 1 hv n (rows boC H)
  sv : Sl w 29 2 vv n (rows woC V)
  gh : ∃ g, hv.ownBlock = some g ∧ W.heap.size ≤ g
  gv : ∃ g, vv.ownBlock = some g ∧ W.heap.size ≤ g
section
variable {W w w' : World} {b n : Nat} {P P' : List Pc} {H H' : List Bool} {V V' : List (Int × Int)} {hv vv hv' vv' : Value}
theorem LsM.keep (h : LsM W w b P H V hv vv n) (hb : Obj W w' b P') (hk : KeepT isCode w w') : LsM W w' b P' H V hv vv n :=
  ⟨hb, h.hn, h.vn, hk.toSl h.sh (by rintro (e | e) <;> cases e), hk.toSl h.sv (by rintro (e | e) <;> cases e), h.gh, h.gv⟩
theorem LsM.below (h : LsM W w b P H V hv vv n) (hb : Below w.heap.size w w') : LsM W w' b P H V hv vv n :=
  ⟨h.ob.below hb, h.hn, h.vn, h.sh.only (Only.of_below (F := fun _ => False) hb) fun _ _ f => f, h.sv.only (Only.of_below (F := fun _ => False) hb) fun _ _ f => f, h.gh, h.gv⟩
theorem own_form {T k : Nat} {v : Value} {xs : List Value} (h : Sl w T k v n xs) (ho : ∃ g, v.ownBlock = some g ∧ W.heap.size ≤ g) : ∃ g off c, v = .slice (some ⟨g, off, none⟩) n c ∧ n ≤ c ∧ c ≤ maxLen ∧ W.heap.size ≤ g := by
  obtain ⟨g, hg, hW⟩ := ho
  rcases h.2 with ⟨rfl, _⟩ | ⟨g', off, c, cs, rfl, _, h1, h2, _⟩
  · cases hg
  · have e : some g' = some g := hg
    cases e
    exact ⟨_, _, _, rfl, h1, h2, hW⟩
theorem LsM.onlyH (h : LsM W w b P H V hv vv n) (ho : Only (fun g => hv.ownBlock = some g) w w') : Obj W w' b P ∧ Sl w' 29 2 vv n (rows woC V) := by
  refine ⟨h.ob.besideT h.sh (by decide) (by decide) (by decide) ho fun g hg => ?_, h.sv.only ho fun g hg e => Sl.apart h.sh h.sv (by decide) g e hg⟩
  obtain ⟨g', e, hW⟩ := h.gh
  rw [e] at hg
  cases hg
  exact hW
theorem LsM.onlyV (h : LsM W w b P H V hv vv n) (ho : Only (fun g => vv.ownBlock = some g) w w') : Obj W w' b P ∧ Sl w' 4 1 hv n (rows boC H) := by
  refine ⟨h.ob.besideT h.sv (by decide) (by decide) (by decide) ho fun g hg => ?_, h.sh.only ho fun g hg e => Sl.apart h.sh h.sv (by decide) g hg e⟩
  obtain ⟨g', e, hW⟩ := h.gv
  rw [e] at hg
  cases hg
  exact hW
theorem LsM.setH {g off c : Nat} (h : LsM W w b P H V (.slice (some ⟨g, off, none⟩) n c) vv n) {j : Nat} (hj : j < n) (x : Bool) : LsM W (w.setCell ⟨g, off + j, none⟩ (.bool x)) b P (H.set j x) V (.slice (some ⟨g, off, none⟩) n c) vv n := by
  have ho : Only (fun q => (Value.slice (some ⟨g, off, none⟩) n c).ownBlock = some q) w (w.setCell ⟨g, off + j, none⟩ (.bool x)) := (Only.refl (fun q => (Value.slice (some ⟨g, off, none⟩) n c).ownBlock = some q) w).setCell (p := ⟨g, off + j, none⟩) (.inl rfl) _
  have hs := h.sh.set j (by rw [h.sh.1]; omega) (.bool x)
  rw [bo_set] at hs
  exact ⟨(h.onlyH ho).1, by rw [List.length_set]; exact h.hn, h.vn, hs, (h.onlyH ho).2, h.gh, h.gv⟩
theorem LsM.setV {g off c : Nat} (h : LsM W w b P H V hv (.slice (some ⟨g, off, none⟩) n c) n) {j : Nat} (hj : j < n) (x : Int × Int) : LsM W ((w.setCell ⟨g, off + j * 2, none⟩ (.int .i64 x.1)).setCell ⟨g, off + j * 2 + 1, none⟩ (.int .i64 x.2)) b P H (V.set j x) hv (.slice (some ⟨g, off, none⟩) n c) n := by
  have ho : Only (fun q => (Value.slice (some ⟨g, off, none⟩) n c).ownBlock = some q) w ((w.setCell ⟨g, off + j * 2, none⟩ (.int .i64 x.1)).setCell ⟨g, off + j * 2 + 1, none⟩ (.int .i64 x.2)) := ((Only.refl (fun q => (Value.slice (some ⟨g, off, none⟩) n c).ownBlock = some q) w).setCell (p := ⟨g, off + j * 2, none⟩) (.inl rfl) _).setCell (p := ⟨g, off + j * 2 + 1, none⟩) (.inl rfl) _
  have hs := (h.sv.set (j * 2) (by rw [h.sv.1]; omega) (.int .i64 x.1)).set (j * 2 + 1) (by rw [List.length_set, h.sv.1]; omega) (.int .i64 x.2)
  rw [wo_set] at hs
  exact ⟨(h.onlyV ho).1, h.hn, by rw [List.length_set]; exact h.vn, (h.onlyV ho).2, hs, h.gh, h.gv⟩
/-- Another list of bools, or of words. -/
theorem LsM.newH {m : Nat} (h : LsM W w b P H V hv vv n) (hb : Below w.heap.size w w') (hl : H'.length = m) (hs : Sl w' 4 1 hv' m (rows boC H')) (hg : ∃ g, hv'.ownBlock = some g ∧ w.heap.size ≤ g) : Obj W w' b P ∧ Sl w' 29 2 vv n (rows woC V) ∧ H'.length = m ∧ Sl w' 4 1 hv' m (rows boC H') ∧ ∃ g, hv'.ownBlock = some g ∧ W.heap.size ≤ g := by
  obtain ⟨g, e, hW⟩ := hg
  exact ⟨h.ob.below hb, (h.below hb).sv, hl, hs, g, e, Nat.le_trans h.ob.bel.size hW⟩
theorem LsM.atH {g off c : Nat} (h : LsM W w b P H V (.slice (some ⟨g, off, none⟩) n c) vv n) {j : Nat} (hj : j < n) : ∃ x, H[j]? = some x ∧ w.cell? ⟨g, off + j, none⟩ = some (.bool x) ∧ w.frozen? ⟨g, off + j, none⟩ = false := by
  obtain ⟨g', off', c', e, _, _, hc, hf, _⟩ := h.sh.at_ (by omega)
  cases e
  obtain ⟨x, hx⟩ : ∃ x, H[j]? = some x := ⟨_, List.getElem?_eq_getElem (by rw [h.hn]; exact hj)⟩
  have e := rows_at boC_len H j 0 x hx (by omega)
  rw [Nat.mul_one, Nat.add_zero] at e
  exact ⟨x, hx, hc j _ (by rw [e]; rfl), hf _⟩
theorem LsM.atV {g off c : Nat} (h : LsM W w b P H V hv (.slice (some ⟨g, off, none⟩) n c) n) {j : Nat} (hj : j < n) : ∃ x, V[j]? = some x ∧ w.cell? ⟨g, off + j * 2, none⟩ = some (.int .i64 x.1) ∧ w.cell? ⟨g, off + j * 2 + 1, none⟩ = some (.int .i64 x.2) ∧ w.frozen? ⟨g, off + j * 2, none⟩ = false ∧ w.frozen? ⟨g, off + j * 2 + 1, none⟩ = false := by
  obtain ⟨g', off', c', e, _, _, hc, hf, _⟩ := h.sv.at_ (by omega)
  cases e
  obtain ⟨x, hx⟩ : ∃ x, V[j]? = some x := ⟨_, List.getElem?_eq_getElem (by rw [h.vn]; exact hj)⟩
  have e0 := rows_at woC_len V j 0 x hx (by omega)
  have e1 := rows_at woC_len V j 1 x hx (by omega)
  rw [Nat.add_zero] at e0
  exact ⟨x, hx, hc _ _ (by rw [e0]; rfl), hc _ _ (by rw [e1]; rfl), hf _, hf _⟩
theorem boF {g off n c : Nat} {H : List Bool} (h : Sl w 4 1 (.slice (some ⟨g, off, none⟩) n c) n (rows boC H)) {k : Nat} (hk : k ≤ n) : Rd w (.slice (some ⟨g, off, none⟩) k c) 1 k (rows boC (H.take k)) := by
  rw [← rows_take boC_len]
  exact h.rd.front hk c
theorem woF {g off n c : Nat} {V : List (Int × Int)} (h : Sl w 29 2 (.slice (some ⟨g, off, none⟩) n c) n (rows woC V)) {k : Nat} (hk : k ≤ n) : Rd w (.slice (some ⟨g, off, none⟩) k c) 2 k (rows woC (V.take k)) := by
  rw [← rows_take woC_len]
  exact h.rd.front hk c
theorem boB {g off n c : Nat} {H : List Bool} (h : Sl w 4 1 (.slice (some ⟨g, off, none⟩) n c) n (rows boC H)) (hn : n ≤ c) {k : Nat} (hk : k ≤ n) : Rd w (.slice (if c = k then some ⟨g, off, none⟩ else some ⟨g, off + k, none⟩) (n - k) (c - k)) 1 (n - k) (rows boC (H.drop k)) := by
  have := h.rd.cutIf hk hn (c - k)
  rw [rows_drop boC_len, Nat.mul_one] at this
  exact this
theorem woB {g off n c : Nat} {V : List (Int × Int)} (h : Sl w 29 2 (.slice (some ⟨g, off, none⟩) n c) n (rows woC V)) (hn : n ≤ c) {k : Nat} (hk : k ≤ n) : Rd w (.slice (if c = k then some ⟨g, off, none⟩ else some ⟨g, off + k * 2, none⟩) (n - k) (c - k)) 2 (n - k) (rows woC (V.drop k)) := by
  rw [← rows_drop woC_len]
  exact h.rd.cutIf hk hn (c - k)
theorem zone_boC (m : Nat) : ∀ u ∈ (Builtin.zeroCells (Value.bool false).cells m).toList, u.oneCell' = true := by
  rw [zero_rows (enc := boC) (z := .bool false) (y := false) rfl (by simp [boC])]
  exact boC_one _
theorem zone_woC (m : Nat) : ∀ u ∈ (Builtin.zeroCells (Value.agg #[.int .i64 0, .int .i64 0]).cells m).toList, u.oneCell' = true := by
  rw [zero_rows (enc := woC) (z := .agg #[.int .i64 0, .int .i64 0]) (y := ((0 : Int), (0 : Int))) rfl (by simp [woC])]
  exact woC_one _
theorem own_next {wA w5 : World} {v v' : Value} (h : ∃ g, v.ownBlock = some g ∧ wA.heap.size ≤ g) (hb : Below wA.heap.size wA w5) (hv : v'.ownBlock = v.ownBlock ∨ v'.ownBlock = some w5.heap.size) : ∃ g, v'.ownBlock = some g ∧ wA.heap.size ≤ g := by
  rcases hv with e | e
  · rw [e]
    exact h
  · exact ⟨_, e, hb.size⟩
theorem lsm_fin {wA w7 : World} {m : Nat} {v7 : Value} (ho : Obj W wA b P) (hl : H.length = m) (hs : Sl wA 4 1 hv m (rows boC H)) (hg : ∃ g, hv.ownBlock = some g ∧ W.heap.size ≤ g) (hb : Below wA.heap.size wA w7) (hvl : V'.length = m) (hsv : Sl w7 29 2 v7 m (rows woC V')) (hgv : ∃ g, v7.ownBlock = some g ∧ wA.heap.size ≤ g) : LsM W w7 b P H V' hv v7 m := by
  obtain ⟨g, e, h⟩ := hgv
  exact ⟨ho.below hb, hl, hvl, hs.only (Only.of_below (F := fun _ => False) hb) fun _ _ f => f, hsv, hg, g, e, Nat.le_trans ho.bel.size h⟩
theorem fillH {H Hj : List Bool} {f j m : Nat} {x : Bool} (h : ∀ i, Hj[i]? = if f ≤ i + 1 ∧ i + 1 < j then some x else H[i]?) (hj : j = m + 1) (hf : f ≤ j) (hm : m < Hj.length) : ∀ i, (Hj.set m x)[i]? = if f ≤ i + 1 ∧ i + 1 < j + 1 then some x else H[i]? := by
  intro i
  rw [List.getElem?_set]
  by_cases e : m = i
  · subst e
    rw [if_pos rfl, if_pos hm, if_pos (by omega)]
  · rw [if_neg e, h i]
    by_cases c : f ≤ i + 1 ∧ i + 1 < j
    · rw [if_pos c, if_pos (by omega)]
    · rw [if_neg c, if_neg (by omega)]
theorem fillV {H Hj : List (Int × Int)} {f j m : Nat} {x : Int × Int} (h : ∀ i, Hj[i]? = if f ≤ i + 1 ∧ i + 1 < j then some x else H[i]?) (hj : j = m + 1) (hf : f ≤ j) (hm : m < Hj.length) : ∀ i, (Hj.set m x)[i]? = if f ≤ i + 1 ∧ i + 1 < j + 1 then some x else H[i]? := by
  intro i
  rw [List.getElem?_set]
  by_cases e : m = i
  · subst e
    rw [if_pos rfl, if_pos hm, if_pos (by omega)]
  · rw [if_neg e, h i]
    by_cases c : f ≤ i + 1 ∧ i + 1 < j
    · rw [if_pos c, if_pos (by omega)]
    · rw [if_neg c, if_neg (by omega)]
end
end Go.Proofs.Ytgiogmbopiblmaa
