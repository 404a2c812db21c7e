/- The faces as a state: New. No condition but those written. -/
import Derived.Test.YtmjogpacajbngaaFe
import Derived.Test.YtmjogpacajbngaaFg
namespace Go.Proofs.Ytmjogpacajbngaa
open Go.RowKit

section
variable {P : Program} {w : World} {ops : Array Oper} {rest : List Oper} {o : Oper} {a : Act} {Q : Exit → Act → World → Prop} {T K E : TypeId} {d : TypeDesc} {b : Nat} {m : List (Value × Value)}
theorem wpList_insert_is (hg : o.guard = none) (x k v : Operand) (hop : o.op = Op.insert T x k v) (hT : P.underlying T = some (.map K E)) (hK : P.underlying K = some d)
    (hx : a.eval x = .map (some b)) (h : MapIs w b m) (hm : KeysOf d m) (kv : Value) (hkv : a.eval k = kv) (hk : PlainKey d kv) (vv : Value) (hvv : a.eval v = vv)
    (hK' : ∀ w', MapIs w' b (mput m kv vv) → Only (· = b) w w' → wpList P ops Q rest (a.put o.dst undef) w') : wpList P ops Q (o :: rest) a w := by
  refine wpList_plain hg fun K2 hK2 => ?_
  obtain ⟨w', hr, h1, h2⟩ := h.update hm hT hK hk vv
  subst hkv
  subst hvv
  unfold Oper.wp
  simp only [execOp, hop, hx, Sem.run_bind, hr]
  exact hK2 _ _ (hK' w' h1 h2)
end
/-- The faces behind a store. -/
def putF : Fm → ByteArray → Att → Fm
  | [], n, a => [(n, a)]
  | x :: D, n, a => if n == x.1 then (n, a) :: D else x :: putF D n a
theorem putF_pairs (D : Fm) (n : ByteArray) (a : Att) : mput (facePairs D) (.string n) a.val = facePairs (putF D n a) := by
  induction D with
  | nil => rfl
  | cons x D ih =>
    show mput ((.string x.1, x.2.val) :: facePairs D) (.string n) a.val = _
    unfold mput putF
    rw [keyEq_str, ih]
    split <;> rfl
/-- The faces are the call's own. -/
def FaAt (W w : World) (fb mb : Nat) (D : Fm) (R : Heap) : Prop := Own W w ((fb, .cells 60 #[.map (some mb)]) :: (mb, .map (facePairs D)) :: R)
theorem FaAt.fin {W w : World} {fb mb : Nat} {D : Fm} {R : Heap} (h : FaAt W w fb mb D R) : FaIn w fb mb D := ⟨Own.blk h (List.mem_cons_self ..), Own.mapIs h (List.mem_cons_of_mem _ (List.mem_cons_self ..))⟩
theorem FaAt.below {W w w' : World} {fb mb : Nat} {D : Fm} {R : Heap} (h : FaAt W w fb mb D R) (hb : Below w.heap.size w w') : FaAt W w' fb mb D R := Own.below h hb
theorem FaAt.bel {W w : World} {fb mb : Nat} {D : Fm} {R : Heap} (h : FaAt W w fb mb D R) : Below W.heap.size W w := Own.bel h
theorem FaAt.store {W w w' : World} {fb mb : Nat} {D : Fm} {R : Heap} {n : ByteArray} {a : Att} (h : FaAt W w fb mb D R) (hm : MapIs w' mb (mput (facePairs D) (.string n) a.val)) (ho : Only (· = mb) w w') : FaAt W w' fb mb (putF D n a) R := by
  rw [putF_pairs] at hm
  have h1 := Own.perm h (List.Perm.swap _ _ _)
  exact (h1.turn ho (b := .map (facePairs (putF D n a))) hm).perm (List.Perm.swap _ _ _)
abbrev dflt : ByteArray := ⟨#[100, 101, 102, 97, 117, 108, 116]⟩
set_option maxRecDepth 100000 in
set_option maxHeartbeats 4000000 in
theorem new_any {W w : World} {R : Heap} (h : Own W w R) : Calls Try.prog 16 #[] w fun e w' => ∃ fb mb, e = .returned (.pointer (some ⟨fb, 0, none⟩)) ∧ FaAt W w' fb mb [(dflt, attZero)] R := by
  have HM := hide (MapIs.new w)
  have HO := hide (h.newMap)
  have HK := hide (KeysOf.nil .string)
  have hmm := @run_makeMap Try.prog
  clear h
  go_enter Try.func16, Try.ntmps16
  go_wp2_with (go_loud (refine wpList_insert_is rfl _ _ _ rfl Try.underlying58 Try.underlying9 rfl HM.out HK.out (.string dflt) rfl (.str dflt) attZero.val rfl ?_); intro w2 hm2 ho2)
  have HF := hide ((HO.out.turn ho2 (b := .map (facePairs [(dflt, attZero)])) hm2).newCells 60 #[.map (some w.heap.size)])
  clear hm2 ho2
  go_wp2
  go_ret
  exact ⟨_, _, rfl, HF.out⟩
end Go.Proofs.Ytmjogpacajbngaa
