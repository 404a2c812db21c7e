/- Set of a table that takes the rule: the walk. No condition but those written. -/
import Derived.Test.YtdojcgefiekleaaDoorSyh
import Derived.Laws.EntriesVeiled
namespace Go.Proofs.YtdojcgefiekleaaDoor
open Go.RowKit

section
variable {w : World} {p : TL} {T : Tb}
set_option maxRecDepth 100000 in
set_option maxHeartbeats 4000000 in
theorem tset_ok (h : TabAt w p T) (c k m : Int) (hs : setOk c k m = true) : Calls Tryd.prog 28 #[.pointer (some ⟨p.t, 0, none⟩), .int .i64 c, .int .i64 k, .int .i64 m] w fun e w' => e = .returned (.int .i64 0) ∧ Only (· = p.ow) w w' ∧ TabAt w' p (T.set c k m) := by
  have HN := hide (none_some h)
  obtain ⟨M, hm, hM⟩ := h.own
  have HM := hide hm
  have HK := hide (ent_keys M)
  have c1 : w.cell? ⟨p.t, 1, none⟩ = some (.map (some p.ow)) := (h.blk.cell 1).trans rfl
  have HP := hide (fun (v : Int) (hv : v = if mated k then m else 0) (w2 : World) => h.put hM (w' := w2) hs hv)
  obtain ⟨b, hb⟩ : ∃ b, b = mated k := ⟨_, rfl⟩
  obtain ⟨d, hd⟩ : ∃ d, d = isCh m := ⟨_, rfl⟩
  unfold setOk at hs
  rw [← hb, ← hd] at hs
  simp only [Bool.and_eq_true, decide_eq_true_eq] at hs
  have HA := hide hs.1.1
  have h1 : ¬ k < 0 := by omega
  have h2 : ¬ 10 < k := by omega
  have hbd := hs.2
  have HB := hide hb.symm
  have HD := hide hd.symm
  clear hb hd h hs hm hM
  cases b
  · clear hbd
    go_enter Tryd.func28, Tryd.ntmps28
    go_wp2_with (first | (go_at_call 61; refine (Calls.mono HN.out) ?_; rintro e w' ⟨rfl, rfl⟩) | (go_at_call 62; refine (ris_any _ _).mono ?_; rintro e w' ⟨rfl, rfl⟩; first | rw [HA.out] | rw [HD.out]) | (go_at_call 63; refine (mated_any _ _).mono ?_; rintro e w' ⟨rfl, rfl⟩; rw [HB.out]) | (at_mapUpdate; go_loud (refine wpList_update_is rfl _ _ _ rfl Tryd.underlying73 Tryd.underlying3 rfl HM.out HK.out (.int .i64 c) rfl (.int _ _) (entV (k, 0)) rfl ?_); intro w2 hm2 ho2))
    go_ret
    exact ⟨rfl, ho2, HP.out 0 (by rw [HB.out]; rfl) _ hm2 ho2⟩
  · have hd : d = true := by simpa using hbd
    subst hd
    clear hbd
    go_enter Tryd.func28, Tryd.ntmps28
    go_wp2_with (first | (go_at_call 61; refine (Calls.mono HN.out) ?_; rintro e w' ⟨rfl, rfl⟩) | (go_at_call 62; refine (ris_any _ _).mono ?_; rintro e w' ⟨rfl, rfl⟩; first | rw [HA.out] | rw [HD.out]) | (go_at_call 63; refine (mated_any _ _).mono ?_; rintro e w' ⟨rfl, rfl⟩; rw [HB.out]) | (at_mapUpdate; go_loud (refine wpList_update_is rfl _ _ _ rfl Tryd.underlying73 Tryd.underlying3 rfl HM.out HK.out (.int .i64 c) rfl (.int _ _) (entV (k, m)) rfl ?_); intro w2 hm2 ho2))
    go_ret
    exact ⟨rfl, ho2, HP.out m (by rw [HB.out]; rfl) _ hm2 ho2⟩
end
end Go.Proofs.YtdojcgefiekleaaDoor
namespace Go.Proofs.YtdojcgefiekleaaDoor
open Go.RowKit

section
variable {P : Program} {w : World} {b : Nat} {m : List (Value × Value)} {T K E : TypeId} {d : TypeDesc} {ops : Array Oper} {rest : List Oper} {o : Oper} {a : Act} {Q : Exit → Act → World → Prop}
/-- m[k] = v in a literal -/
theorem wpList_insert_is (hg : o.guard = none) (x k v : Operand) (hop : o.op = Op.insert T x k v) (hT : P.underlying T = some (.map K E)) (hK : P.underlying K = some d)
    (hx : a.eval x = .map (some b)) (h : MapIs w b m) (hm : KeysOf d m) (kv : Value) (hkv : a.eval k = kv) (hk : PlainKey d kv) (vv : Value) (hvv : a.eval v = vv)
    (hK' : ∀ w', MapIs w' b (mput m kv vv) → Only (· = b) w w' → wpList P ops Q rest (a.put o.dst undef) w') : wpList P ops Q (o :: rest) a w := by
  refine wpList_plain hg fun K2 hK2 => ?_
  obtain ⟨w', hr, h1, h2⟩ := h.update hm hT hK hk vv
  subst hkv
  subst hvv
  unfold Oper.wp
  simp only [execOp, hop, hx, Sem.run_bind, hr]
  exact hK2 _ _ (hK' w' h1 h2)
end
end Go.Proofs.YtdojcgefiekleaaDoor
namespace Go.Proofs.YtdojcgefiekleaaDoor
open Go.RowKit

def specialM : List (Int × Int × Int) := special.foldl (fun l x => eput l x.1 x.2) []
theorem specialM_eq : specialM = special := by decide
/-- The world while the literal is laid. -/
structure LSt (W : World) (M : List (Int × Int × Int)) (w : World) : Prop where
  m : MapIs w (W.heap.size + 2) (entPairs M)
  t : Blk w (W.heap.size + 1) 77 #[ruleV false 0, .map (some W.heap.size)]
  o : MapIs w W.heap.size []
  b : Below W.heap.size W w
theorem LSt.start {W w : World} (hb : Below W.heap.size W w) (hs : w.heap.size = W.heap.size + 2) (ht : Blk w (W.heap.size + 1) 77 #[ruleV false 0, .map (some W.heap.size)]) (hm : MapIs w W.heap.size []) : LSt W [] (w.alloc (.map #[] 0)) :=
  ⟨by rw [← hs]; exact MapIs.new w, ht.alloc _, hm.alloc _, hb.alloc hb.size _⟩
theorem LSt.put {W w w' : World} {M : List (Int × Int × Int)} (h : LSt W M w) {c : Int} {x : Int × Int} (hm : MapIs w' (W.heap.size + 2) (mput (entPairs M) (.int .i64 c) (entV x))) (ho : Only (· = W.heap.size + 2) w w') : LSt W (eput M c x) w' := by
  have ht := h.t.lt
  refine ⟨by rw [← eput_map]; exact hm, h.t.only ho (by omega), h.o.only ho (by omega), h.b.trans (ho.below h.b.size fun i e => by omega)⟩
theorem LSt.c0 {W w : World} {M : List (Int × Int × Int)} (h : LSt W M w) (o : Obj) : (w.alloc o).cell? ⟨W.heap.size + 1, 0, none⟩ = some (.func (.func 52) #[] #[]) := ((h.t.alloc o).cell 0).trans rfl
theorem LSt.f0 {W w : World} {M : List (Int × Int × Int)} (h : LSt W M w) (o : Obj) : (w.alloc o).frozen? ⟨W.heap.size + 1, 0, none⟩ = false := (h.t.alloc o).frozen 0
theorem LSt.done {W w : World} {M : List (Int × Int × Int)} (h : LSt W M w) (hM : M = special) : Below W.heap.size W ((w.alloc (.cells #[.map (some (W.heap.size + 2))] 73)).setCell ⟨W.heap.size + 1, 0, none⟩ (ruleV true w.heap.size)) ∧
    TabAt ((w.alloc (.cells #[.map (some (W.heap.size + 2))] 73)).setCell ⟨W.heap.size + 1, 0, none⟩ (ruleV true w.heap.size)) ⟨W.heap.size + 1, W.heap.size, w.heap.size, W.heap.size + 2⟩ ⟨true, []⟩ := by
  have ht := h.t.lt
  refine ⟨(h.b.alloc h.b.size _).setCell (by simp) _, ?_, ⟨[], (h.o.alloc _).setCell _ _, fun _ => rfl, List.nodup_nil⟩, fun _ => ⟨?_, ?_⟩, (fun x hx => nomatch hx), fun _ => by simp⟩
  · have := (h.t.alloc (.cells #[.map (some (W.heap.size + 2))] 73)).set_ 0 (ruleV true w.heap.size)
    exact this
  · exact (Blk.new w _ _).far (by simp only []; omega) _
  · rw [← hM]
    exact (h.m.alloc _).setCell _ _
set_option maxRecDepth 100000 in
theorem upon_insert {W w : World} {M : List (Int × Int × Int)} {c x1 x2 : Int} {o : Oper} {a : Act} {K : Act → World → Prop} {Q : Exit → Act → World → Prop} (h : LSt W M w)
    (hK : ∀ w', LSt W (eput M c (x1, x2)) w' → K (a.put o.dst undef) w') :
    Oper.upon Tryd.prog o a K Q ((Sem.run Tryd.prog (Instr.mapUpdate 73 (.map (some (W.heap.size + 2))) (.int .i64 c) (.agg #[.int .i64 x1, .int .i64 x2])) w).andThen fun _ w' => Result.ok Next.skip w') := by
  obtain ⟨w', hr, h1, h2⟩ := h.m.update (ent_keys M) Tryd.underlying73 Tryd.underlying3 (.int .i64 c) (entV (x1, x2))
  have hr2 : (Instr.mapUpdate 73 (.map (some (W.heap.size + 2))) (.int .i64 c) (.agg #[.int .i64 x1, .int .i64 x2])).run Tryd.prog w = .ok () w' := hr
  rw [hr2]
  have h3 := hK w' (h.put h1 h2)
  simp only [Result.andThen, Oper.upon]
  exact h3
set_option maxRecDepth 100000 in
set_option maxHeartbeats 4000000 in
theorem tlisp_any (w : World) : Calls Tryd.prog 22 #[] w fun e w' => ∃ p : TL, e = .returned (.pointer (some ⟨p.t, 0, none⟩)) ∧ Below w.heap.size w w' ∧ w.heap.size ≤ p.ow ∧ TabAt w' p ⟨true, []⟩ := by
  go_enter Tryd.func22, Tryd.ntmps22
  have hf := make_ents
  go_wp2_with (first | (go_at_call 39; refine (tnew_any _).mono ?_; rintro e w1 ⟨rfl, hb1, hs1, hk1, hm1⟩; have hl := LSt.start hb1 hs1 hk1 hm1; clear hb1 hk1 hm1) | (refine upon_insert (by assumption) ?_; (try clear c0 f0); intro w2 hl2; have c0 := hl2.c0 (.cells #[Value.map (some (w.heap.size + 2))] 73); have f0 := hl2.f0 (.cells #[Value.map (some (w.heap.size + 2))] 73)))
  obtain ⟨h1, h2⟩ := hl2.done specialM_eq
  go_ret
  exact ⟨⟨w.heap.size + 1, w.heap.size, w2.heap.size, w.heap.size + 2⟩, rfl, h1, Nat.le_refl _, h2⟩
end Go.Proofs.YtdojcgefiekleaaDoor
