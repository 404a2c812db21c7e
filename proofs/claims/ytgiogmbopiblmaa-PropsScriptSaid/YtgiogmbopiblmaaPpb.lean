/- The value of a name in a list of properties in memory. No condition but those written. -/
import Derived.Test.YtgiogmbopiblmaaPpa
namespace Go.Proofs.Ytgiogmbopiblmaa
open Go.RowKit

theorem results_cell_tmp2 {P : Program} {fn : Func} {q p : Tmp} {ty : TypeId} (h : fn.results = #[.cell p ty, .tmp q]) (tmps : Array Value) (w : World) (g : Nat) (t : TypeId) (cs : Array Value) (fr : Nat × Nat) (d : TypeDesc)
    (hp : tmps.getD p undef = .pointer (some ⟨g, 0, none⟩)) (hg : w.heap[g]? = some (.cells cs t fr))
    (hu : P.underlying ty = some d) (hd : (match d with | .struct _ | .array _ _ => true | _ => false) = true) (hi : (P.info? ty).map (·.size) = some cs.size) :
    (results fn tmps).run P w = .ok (.tuple #[.agg cs, tmps.getD q undef]) w := by
  have hp' : tmps[p]?.getD undef = .pointer (some ⟨g, 0, none⟩) := by simpa using hp
  simp [results, h, hp', asAddr, run_loadVar_row w g t ty cs fr d hg hu hd hi]
theorem Rd.belowN {w w' : World} {v : Value} {k n : Nat} {xs : List Value} (h : Rd w v k n xs) (hb : Below w.heap.size w w') : Rd w' v k n xs := h.only (F := fun _ => False) (Only.of_below hb) fun _ _ f => f
theorem below_box (w : World) (o : Obj) : Below w.heap.size w (w.alloc o) := (Below.refl _ w).alloc (Nat.le_refl _) _
/-- A list of properties of the program's own. -/
def PrS (W : World) (v : Value) (q : List Pr) : Prop := Sl W 36 3 v q.length (rows prC q)
theorem PrS.below {w w' : World} {v : Value} {q : List Pr} (h : PrS w v q) (hb : Below w.heap.size w w') : PrS w' v q := Sl.only h (Only.of_below (F := fun _ => False) hb) fun _ _ f => f
def getV (l : List Pr) (n : Int) : Int × Int := (getP l n).getD (0, 0)
theorem getP_at {l : List Pr} {k : Nat} {x : Pr} {n : Int} (hx : l[k]? = some x) (hb : ∀ y ∈ l.take k, y.1 ≠ n) (he : x.1 = n) : getP l n = some x.2 := by
  have hk := (List.getElem?_eq_some_iff.1 hx).1
  have hs : l = l.take k ++ x :: l.drop (k + 1) := by
    have h2 := (List.getElem?_eq_some_iff.1 hx).2
    rw [← h2, List.getElem_cons_drop, List.take_append_drop]
  have h0 : (l.take k).find? (fun y => decide (y.1 = n)) = none := List.find?_eq_none.2 fun y hy => by simpa using hb y hy
  unfold getP
  rw [hs, List.find?_append, h0]
  simp [he]
theorem getP_off {l : List Pr} {n : Int} (hb : ∀ y ∈ l, y.1 ≠ n) : getP l n = none := by
  unfold getP
  rw [List.find?_eq_none.2 fun y hy => by simpa using hb y hy]
  rfl
set_option maxRecDepth 100000 in
set_option maxHeartbeats 4000000 in
theorem get_any (l : List Pr) (v : Value) (n : Int) (w : World) (h : Rd w v 3 l.length (rows prC l)) (hl : l.length ≤ 1000000) :
    Calls Try.prog 57 #[v, .int .i64 n] w fun e w' => e = .returned (.tuple #[.agg #[.int .i64 (getV l n).1, .int .i64 (getV l n).2], .bool (getP l n).isSome]) ∧ Below w.heap.size w w' := by
  obtain ⟨A, c, rfl, _⟩ := id h
  have hF0 := Blk.new w 29 #[.int .i64 0, .int .i64 0]
  have H := hide h
  have hl2 : (l.length : Int) ≤ 1000000 := by omega
  have HF0 := hide hF0
  clear h hF0
  go_enter Try.func57, Try.ntmps57
  go_wp2
  go_loopw [10] (fun i wr => ∃ k : Nat, i = .int .i64 (k : Int) ∧ k ≤ l.length ∧ (∀ y ∈ l.take k, y.1 ≠ n) ∧ Below w.heap.size w wr ∧ Blk wr w.heap.size 29 #[.int .i64 0, .int .i64 0]) (fun i _ => l.length - (intOf i).toNat)
  case atStart => exact ⟨0, rfl, Nat.zero_le _, by simp, below_box _ _, HF0.out⟩
  case round =>
    obtain ⟨k, rfl, hk, hn, hb, hF⟩ := hrel
    have HB := hide hb
    have HF := hide hF
    have HN := hide hn
    by_cases hlt : k < l.length
    · have z1 : decide ((k : Int) < (l.length : Int)) = true := by simp; omega
      have z2 : (k : Int) < (l.length : Int) := by omega
      obtain ⟨x, hx⟩ : ∃ x, l[k]? = some x := ⟨_, List.getElem?_eq_getElem hlt⟩
      obtain ⟨g1, o1, d1, hv1, hc1⟩ := Rd.fld prC_len (H.out.belowN hb) (by omega)
      obtain ⟨rfl, rfl⟩ : A = some ⟨g1, o1, none⟩ ∧ c = d1 := by
        injection hv1 with e1 _ e2
        exact ⟨e1, e2⟩
      have p0 : wr.cell? ⟨g1, o1 + k * 3, none⟩ = some (.int .i64 x.1) := hc1 k x 0 _ hx rfl
      have p1 : wr.cell? ⟨g1, o1 + k * 3 + 1, none⟩ = some (.int .i64 x.2.1) := hc1 k x 1 _ hx rfl
      have p2 : wr.cell? ⟨g1, o1 + k * 3 + 2, none⟩ = some (.int .i64 x.2.2) := hc1 k x 2 _ hx rfl
      have HX := hide hx
      have HLT := hide hlt
      have hA := hF.alloc (.cells #[.int .i64 x.1, .int .i64 x.2.1, .int .i64 x.2.2] 36)
      have c0 := hA.cell 0
      have c1 := hA.cell 1
      have f0 := hA.frozen 0
      have f1 := hA.frozen 1
      have HA := hide hA
      clear hx hc1 hv1 hk hlt hn hb hF hA
      by_cases he : x.1 = n
      · have q1 : (x.1 == n) = true := by simpa using he
        have HV := hide (getP_at HX.out HN.out he)
        clear he
        go_wp2
        refine bodyPost_ret (results_cell_tmp2 rfl _ _ w.heap.size 29 _ (0, 0) _ rfl ((HA.out.set_ 0 _).set_ 1 _) Try.underlying29 rfl (by kernel_rfl)) rfl ?_
        refine ⟨by unfold getV; rw [HV.out]; rfl, ?_⟩
        exact ((HB.out.alloc HB.out.size _).setCell (p := ⟨w.heap.size, 0, none⟩) (Nat.le_refl _) _).setCell (p := ⟨w.heap.size, 1, none⟩) (Nat.le_refl _) _
      · have q1 : (x.1 == n) = false := by simpa using he
        have HE := hide he
        clear he
        go_wp2
        go_roundw
        case rel => exact ⟨k + 1, by go_num, HLT.out, fun y hy => by
          rw [List.take_add_one, HX.out] at hy
          rcases List.mem_append.1 hy with hy | hy
          · exact HN.out y hy
          · have : y = x := by simpa using hy
            exact this ▸ HE.out, HB.out.alloc HB.out.size _, HA.out⟩
        case measure => have := HLT.out; simp [intOf]; omega
    · have z1 : decide ((k : Int) < (l.length : Int)) = false := by simp; omega
      obtain rfl : k = l.length := by omega
      have HV := hide (getP_off (l := l) (n := n) (by rw [List.take_length] at hn; exact hn))
      have c0 := hF.cell 0
      have c1 := hF.cell 1
      have f0 := hF.frozen 0
      have f1 := hF.frozen 1
      clear hk hlt hn hb hF
      go_wp2
      refine bodyPost_ret (results_cell_tmp2 rfl _ _ w.heap.size 29 _ (0, 0) _ rfl ((HF.out.set_ 0 _).set_ 1 _) Try.underlying29 rfl (by kernel_rfl)) rfl ?_
      refine ⟨by unfold getV; rw [HV.out]; rfl, ?_⟩
      exact (HB.out.setCell (p := ⟨w.heap.size, 0, none⟩) (Nat.le_refl _) _).setCell (p := ⟨w.heap.size, 1, none⟩) (Nat.le_refl _) _
end Go.Proofs.Ytgiogmbopiblmaa
