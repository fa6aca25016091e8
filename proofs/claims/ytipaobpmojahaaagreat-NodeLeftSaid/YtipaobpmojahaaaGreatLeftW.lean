/-
  polliwoglaw16.NodeLeft, out of the row's reading. No conditions.
-/
import Derived.Test.YtipaobpmojahaaaGreatLfW
import Derived.Test.YtipaobpmojahaaaGreatOpenC
namespace Go.Proofs.YtipaobpmojahaaaGreat
open Go.RowKit Go.ChangeShapes Go.WideShapes Go.ChangeAt

set_option maxRecDepth 100000 in
theorem nodeLeft.walk (v v2 : Value) (ack : Int) (w : World) {H : Type} {enc : TypeId × Value -> H} {base : Nat} {d d2 : DataW H} {p p2 : List MemPlace} (hv : Value.okWide Tryz.prog w .any base 24 v) (h : DataW.Trod enc Tryz.prog w 0 (fun _ => true) true 24 v d p)
  (hv2 : Value.okWide Tryz.prog w .any base 25 v2) (h2 : DataW.Trod enc Tryz.prog w 0 (fun _ => true) true 25 v2 d2 p2) (_ : (Lit.int .i64 ack).wf = true) :
  Calls Tryz.prog 4 #[v, v2, .int .i64 ack] w fun e w' => e = .returned (.bool true) ∧ Below w.heap.size w w' := by
 obtain ⟨x0, x1, x2, x3, x4, x5, A, c, L, rfl, r1⟩ := open_config v w hv h
 obtain ⟨A3, c3, M, rfl, r3, -⟩ := open_strs v2 w hv2 h2
 exact (nodeLeft.core x0 x1 x2 x3 x4 x5 A c L A3 c3 M ack w r1 r3).mono fun e w' ⟨he, ht⟩ => ⟨he, ht.below (Nat.le_refl _) (fun _ _ e => e)⟩
end Go.Proofs.YtipaobpmojahaaaGreat
