/- A map literal's entries, and the table that Lisp makes: the program's. No condition but those written. -/
import Derived.Test.YtdojcgefiekleaaDoorSyi
namespace Go.Proofs.YtdojcgefiekleaaDoor
open Go.RowKit

section
variable {P : Program} {w : World} {b : Nat} {m : List (Value × Value)} {T K E : TypeId} {d : TypeDesc} {ops : Array Oper} {rest : List Oper} {o : Oper} {a : Act} {Q : Exit → Act → World → Prop}
/-- m[k] = v in a literal -/
theorem wpList_insert_is (hg : o.guard = none) (x k v : Operand) (hop : o.op = Op.insert T x k v) (hT : P.underlying T = some (.map K E)) (hK : P.underlying K = some d)
    (hx : a.eval x = .map (some b)) (h : MapIs w b m) (hm : KeysOf d m) (kv : Value) (hkv : a.eval k = kv) (hk : PlainKey d kv) (vv : Value) (hvv : a.eval v = vv)
    (hK' : ∀ w', MapIs w' b (mput m kv vv) → Only (· = b) w w' → wpList P ops Q rest (a.put o.dst undef) w') : wpList P ops Q (o :: rest) a w := by
  refine wpList_plain hg fun K2 hK2 => ?_
  obtain ⟨w', hr, h1, h2⟩ := h.update hm hT hK hk vv
  subst hkv
  subst hvv
  unfold Oper.wp
  simp only [execOp, hop, hx, Sem.run_bind, hr]
  exact hK2 _ _ (hK' w' h1 h2)
end
end Go.Proofs.YtdojcgefiekleaaDoor
