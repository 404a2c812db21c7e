/- SyntaxBuilt: the walk, both. No condition but those written. -/
import Derived.Test.YtdojcgefiekleaaDoorSdi
import Derived.Test.YtdojcgefiekleaaDoorSdj
namespace Go.Proofs.YtdojcgefiekleaaDoor
open Go.RowKit

theorem built_walk (lv pv gv : Value) (l ps gs : List Int) (w : World) (hT : Tabs w) (hl : Rd w lv 1 l.length (zints l)) (hp : Rd w pv 1 ps.length (zints ps)) (hg : Rd w gv 1 gs.length (zints gs)) (hlm : l.length ≤ maxLen) (hpm : ps.length ≤ maxLen) (hgm : gs.length ≤ maxLen) : Calls Tryd.prog 6 #[lv, pv, gv] w fun e w' => e = .returned (.bool true) ∧ Below w.heap.size w w' := by
  by_cases h : gs.length = 0
  · exact built_none lv pv gv l ps gs w hT hl hp hg hlm hpm hgm h
  · exact built_some lv pv gv l ps gs w hT hl hp hg hlm hpm hgm h
end Go.Proofs.YtdojcgefiekleaaDoor
