/- Slices of texts: how much the law counts, its copy, its comparison. -/
import Derived.Test.YtofihcahimdbhaaCore
import Derived.Test.YtofihcahimdbhaaTree
import Derived.Test.YtofihcahimdbhaaRow4
namespace Go.Proofs.Ytofihcahimdbhaa
open Go.RowKit

/-- A function that says q of two structs. -/
def IsQ {α : Type} (F : FuncId) (f : α → List D) (q : α → α → Bool) (x : α) : Prop := ∀ (y : α) (cs cs' : List Value) (w : World), D.Ats w anyB (f x) cs → D.Ats w anyB (f y) cs' →
  Calls Try.prog F #[.agg cs.toArray, .agg cs'.toArray] w fun e w' => e = .returned (.bool (q x y)) ∧ Below w.heap.size w w'



end Go.Proofs.Ytofihcahimdbhaa
