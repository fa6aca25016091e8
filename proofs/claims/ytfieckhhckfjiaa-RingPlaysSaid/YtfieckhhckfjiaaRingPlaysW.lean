/-
  polliwoglaw04.RingPlays: behind any calls what stands in a row is what the document says: its arguments as they come in.
-/
import Derived.Test.YtfieckhhckfjiaaRingPlays
namespace Go.Proofs.Ytfieckhhckfjiaa
open Go.RowKit

theorem ringPlays.walk (a0 : Int) (v : Value) (w : World) (_h0 : (Lit.int .i64 a0).wf = true) {H : Type} {enc : TypeId × Value → H} {base : Nat} {d : DataW H} {p : List MemPlace} (hv : Value.okWide Try.prog w .any base 42 v) (h : DataW.Trod enc Try.prog w 0 (fun _ => true) true 42 v d p) :
    Calls Try.prog 6 #[.int .i64 a0, v] w fun e w' => e = .returned (.bool true) ∧ Below w.heap.size w w' := by
  obtain ⟨A, c, l, rfl, hr⟩ := open_rd_act4 hv h
  refine ringPlays.core a0 _ _ _ _ rfl rfl rfl ?_ rfl ?_ A c l w hr
  · split <;> split <;> omega
  · omega
end Go.Proofs.Ytfieckhhckfjiaa
