/-
  polliwogref14.Receive: what is not handled.
-/
import Derived.Test.YtkmegkjkbalooaaRe14
import Derived.Test.YtkmegkjkbalooaaRf14p
import Derived.RegionTactic
import Derived.ChangeAlike
import Derived.Deep.RegionLaw
import Derived.Deep.QuietTactic
import Derived.BigQuiet
import Derived.StillTailTactics
import Derived.Deep.DeepCutAuto
import Derived.Deep.CutBlock
namespace Go.Proofs.Ytkmegkjkbalooaa
open Go.RowKit

def ruV (p : Cn.Pd) : Value := .agg #[.int .i64 p.kind, .int .i64 p.sq, .int .i64 p.n, .bool p.self, .string p.data]
section
variable {K : Nat → Prop} {n : Nat} {w : World} {P : RP} {s : Cn.S} {r z : Cn.R} {y : Cn.SR}
theorem rtell_q (h : RIn K n w P r) (hn : n ≤ 90) (kind : Int) (self : Bool) (d : ByteArray) (hz : { r with sigs := r.sigs ++ [Cn.sig kind self d] } = z) : Calls Try.prog 72 #[rrV P r, .int .i64 kind, .bool self, .string d] w (RPost1 K (n + 1) z w) := hz ▸ rtell_any h hn kind self d
theorem rreport_q (h : RIn K n w P r) (hn : n ≤ 90) (code : Int) (hz : { r with sigs := r.sigs ++ [⟨12, ByteArray.empty, false, code, 0⟩] } = z) : Calls Try.prog 71 #[rrV P r, .int .u8 code] w (RPost1 K (n + 1) z w) := hz ▸ rreport_any h hn code
theorem rout_q (h : RIn K n w P r) (hn : n ≤ 90) (kind sq : Int) (self : Bool) (d : ByteArray) (hz : (Cn.out (s, r) (Cn.unit_ kind sq self d)).2 = z) : Calls Try.prog 67 #[rcV s, rrV P r, .int .i64 kind, .int .i64 sq, .bool self, .string d] w (RPost1 K (n + 1) z w) := hz ▸ rout_any h hn kind sq self d
theorem rto_q (h : RIn K n w P r) (st t : Int) (hy : Cn.toT (s, r) st t = y) : Calls Try.prog 69 #[rcV s, rrV P r, .int .i64 st, .int .i64 t] w (RPost K n y w) := hy ▸ rto_any h st t
theorem rready_q (h : RIn K n w P r) (hy : Cn.ready (s, r) = y) : Calls Try.prog 68 #[rcV s, rrV P r] w (RPost K n y w) := hy ▸ rready_any h
end

set_option maxHeartbeats 4000000 in
set_option maxRecDepth 100000 in
theorem rrec_no {K : Nat → Prop} {w : World} (hlim : ∀ k, K k → k < w.heap.size) (mo cr st sq pe cc ms psq kd pn lt : Int) (da : ByteArray) (self : Bool) (d : ByteArray) (q : Int) (hq : Ru.refOf st kd = q) (hn : ¬ q = 1 ∧ ¬ q = 2 ∧ ¬ q = 3 ∧ ¬ q = 4) :
    Calls Try.prog 62 #[rcV ⟨mo, cr, st, sq, pe, cc, ms, da⟩, ruV ⟨kd, psq, pn, 0, 0, none, 0, 0, self, d⟩] w (RPost K 9 (Cn.hear q lt (⟨mo, cr, st, sq, pe, cc, ms, da⟩, Cn.r0) ⟨kd, psq, pn, 0, 0, none, 0, 0, self, d⟩) w) := by
  unfold rcV ruV
  dsimp only
  have h := RIn.nil (w := w) hlim
  have HF : Hid (Fresh w (((((w.alloc (.cells #[.int .i64 mo, .int .i64 cr, .int .i64 st, .int .i64 sq, .int .i64 pe, .int .i64 cc, .int .i64 ms, .string da] 59)).alloc (.cells #[.int .i64 kd, .int .i64 psq, .int .i64 pn, .bool self, .string d] 110)).alloc (.cells #[.int .i64 0, .int .i64 0, .int .i64 0, .int .i64 0, .int .i64 0, .int .i64 0, .int .i64 0, .string { data := #[] }] 59)).alloc (.cells #[.slice none 0 0, .slice none 0 0, .bool false, .bool false, .int .i64 0, .int .i64 0] 90)).alloc (.cells #[.slice none 0 0, .slice none 0 0, .bool false, .bool false, .int .i64 0, .int .i64 0] 90))) := (((((Touch.refl _ w).alloc _).alloc _).alloc _).alloc _).alloc _
  have HBC1 : Hid (Blk (((((w.alloc (.cells #[.int .i64 mo, .int .i64 cr, .int .i64 st, .int .i64 sq, .int .i64 pe, .int .i64 cc, .int .i64 ms, .string da] 59)).alloc (.cells #[.int .i64 kd, .int .i64 psq, .int .i64 pn, .bool self, .string d] 110)).alloc (.cells #[.int .i64 0, .int .i64 0, .int .i64 0, .int .i64 0, .int .i64 0, .int .i64 0, .int .i64 0, .string { data := #[] }] 59)).alloc (.cells #[.slice none 0 0, .slice none 0 0, .bool false, .bool false, .int .i64 0, .int .i64 0] 90)).alloc (.cells #[.slice none 0 0, .slice none 0 0, .bool false, .bool false, .int .i64 0, .int .i64 0] 90)) (w.heap.size) 59 [.int .i64 mo, .int .i64 cr, .int .i64 st, .int .i64 sq, .int .i64 pe, .int .i64 cc, .int .i64 ms, .string da]) := by
    have := ((((Blk.new w 59 [.int .i64 mo, .int .i64 cr, .int .i64 st, .int .i64 sq, .int .i64 pe, .int .i64 cc, .int .i64 ms, .string da]).alloc (.cells #[.int .i64 kd, .int .i64 psq, .int .i64 pn, .bool self, .string d] 110)).alloc (.cells #[.int .i64 0, .int .i64 0, .int .i64 0, .int .i64 0, .int .i64 0, .int .i64 0, .int .i64 0, .string { data := #[] }] 59)).alloc (.cells #[.slice none 0 0, .slice none 0 0, .bool false, .bool false, .int .i64 0, .int .i64 0] 90)).alloc (.cells #[.slice none 0 0, .slice none 0 0, .bool false, .bool false, .int .i64 0, .int .i64 0] 90)
    exact this
  have HGC : Hid (Kept K w (((((w.alloc (.cells #[.int .i64 mo, .int .i64 cr, .int .i64 st, .int .i64 sq, .int .i64 pe, .int .i64 cc, .int .i64 ms, .string da] 59)).alloc (.cells #[.int .i64 kd, .int .i64 psq, .int .i64 pn, .bool self, .string d] 110)).alloc (.cells #[.int .i64 0, .int .i64 0, .int .i64 0, .int .i64 0, .int .i64 0, .int .i64 0, .int .i64 0, .string { data := #[] }] 59)).alloc (.cells #[.slice none 0 0, .slice none 0 0, .bool false, .bool false, .int .i64 0, .int .i64 0] 90)).alloc (.cells #[.slice none 0 0, .slice none 0 0, .bool false, .bool false, .int .i64 0, .int .i64 0] 90)) (w.heap.size)) := .inr ⟨by omega, by simp; try omega⟩
  have HBU1 : Hid (Blk (((((w.alloc (.cells #[.int .i64 mo, .int .i64 cr, .int .i64 st, .int .i64 sq, .int .i64 pe, .int .i64 cc, .int .i64 ms, .string da] 59)).alloc (.cells #[.int .i64 kd, .int .i64 psq, .int .i64 pn, .bool self, .string d] 110)).alloc (.cells #[.int .i64 0, .int .i64 0, .int .i64 0, .int .i64 0, .int .i64 0, .int .i64 0, .int .i64 0, .string { data := #[] }] 59)).alloc (.cells #[.slice none 0 0, .slice none 0 0, .bool false, .bool false, .int .i64 0, .int .i64 0] 90)).alloc (.cells #[.slice none 0 0, .slice none 0 0, .bool false, .bool false, .int .i64 0, .int .i64 0] 90)) (w.heap.size + 1) 110 [.int .i64 kd, .int .i64 psq, .int .i64 pn, .bool self, .string d]) := by
    have := (((Blk.new (w.alloc (.cells #[.int .i64 mo, .int .i64 cr, .int .i64 st, .int .i64 sq, .int .i64 pe, .int .i64 cc, .int .i64 ms, .string da] 59)) 110 [.int .i64 kd, .int .i64 psq, .int .i64 pn, .bool self, .string d]).alloc (.cells #[.int .i64 0, .int .i64 0, .int .i64 0, .int .i64 0, .int .i64 0, .int .i64 0, .int .i64 0, .string { data := #[] }] 59)).alloc (.cells #[.slice none 0 0, .slice none 0 0, .bool false, .bool false, .int .i64 0, .int .i64 0] 90)).alloc (.cells #[.slice none 0 0, .slice none 0 0, .bool false, .bool false, .int .i64 0, .int .i64 0] 90)
    rwa [show (w.alloc (.cells #[.int .i64 mo, .int .i64 cr, .int .i64 st, .int .i64 sq, .int .i64 pe, .int .i64 cc, .int .i64 ms, .string da] 59)).heap.size = w.heap.size + 1 by simp] at this
  have HGU : Hid (Kept K w (((((w.alloc (.cells #[.int .i64 mo, .int .i64 cr, .int .i64 st, .int .i64 sq, .int .i64 pe, .int .i64 cc, .int .i64 ms, .string da] 59)).alloc (.cells #[.int .i64 kd, .int .i64 psq, .int .i64 pn, .bool self, .string d] 110)).alloc (.cells #[.int .i64 0, .int .i64 0, .int .i64 0, .int .i64 0, .int .i64 0, .int .i64 0, .int .i64 0, .string { data := #[] }] 59)).alloc (.cells #[.slice none 0 0, .slice none 0 0, .bool false, .bool false, .int .i64 0, .int .i64 0] 90)).alloc (.cells #[.slice none 0 0, .slice none 0 0, .bool false, .bool false, .int .i64 0, .int .i64 0] 90)) (w.heap.size + 1)) := .inr ⟨by omega, by simp; try omega⟩
  have HBOC1 : Hid (Blk (((((w.alloc (.cells #[.int .i64 mo, .int .i64 cr, .int .i64 st, .int .i64 sq, .int .i64 pe, .int .i64 cc, .int .i64 ms, .string da] 59)).alloc (.cells #[.int .i64 kd, .int .i64 psq, .int .i64 pn, .bool self, .string d] 110)).alloc (.cells #[.int .i64 0, .int .i64 0, .int .i64 0, .int .i64 0, .int .i64 0, .int .i64 0, .int .i64 0, .string { data := #[] }] 59)).alloc (.cells #[.slice none 0 0, .slice none 0 0, .bool false, .bool false, .int .i64 0, .int .i64 0] 90)).alloc (.cells #[.slice none 0 0, .slice none 0 0, .bool false, .bool false, .int .i64 0, .int .i64 0] 90)) (w.heap.size + 1 + 1) 59 [.int .i64 0, .int .i64 0, .int .i64 0, .int .i64 0, .int .i64 0, .int .i64 0, .int .i64 0, .string { data := #[] }]) := by
    have := ((Blk.new ((w.alloc (.cells #[.int .i64 mo, .int .i64 cr, .int .i64 st, .int .i64 sq, .int .i64 pe, .int .i64 cc, .int .i64 ms, .string da] 59)).alloc (.cells #[.int .i64 kd, .int .i64 psq, .int .i64 pn, .bool self, .string d] 110)) 59 [.int .i64 0, .int .i64 0, .int .i64 0, .int .i64 0, .int .i64 0, .int .i64 0, .int .i64 0, .string { data := #[] }]).alloc (.cells #[.slice none 0 0, .slice none 0 0, .bool false, .bool false, .int .i64 0, .int .i64 0] 90)).alloc (.cells #[.slice none 0 0, .slice none 0 0, .bool false, .bool false, .int .i64 0, .int .i64 0] 90)
    rwa [show ((w.alloc (.cells #[.int .i64 mo, .int .i64 cr, .int .i64 st, .int .i64 sq, .int .i64 pe, .int .i64 cc, .int .i64 ms, .string da] 59)).alloc (.cells #[.int .i64 kd, .int .i64 psq, .int .i64 pn, .bool self, .string d] 110)).heap.size = w.heap.size + 1 + 1 by simp] at this
  have HGOC : Hid (Kept K w (((((w.alloc (.cells #[.int .i64 mo, .int .i64 cr, .int .i64 st, .int .i64 sq, .int .i64 pe, .int .i64 cc, .int .i64 ms, .string da] 59)).alloc (.cells #[.int .i64 kd, .int .i64 psq, .int .i64 pn, .bool self, .string d] 110)).alloc (.cells #[.int .i64 0, .int .i64 0, .int .i64 0, .int .i64 0, .int .i64 0, .int .i64 0, .int .i64 0, .string { data := #[] }] 59)).alloc (.cells #[.slice none 0 0, .slice none 0 0, .bool false, .bool false, .int .i64 0, .int .i64 0] 90)).alloc (.cells #[.slice none 0 0, .slice none 0 0, .bool false, .bool false, .int .i64 0, .int .i64 0] 90)) (w.heap.size + 1 + 1)) := .inr ⟨by omega, by simp; try omega⟩
  have HBOR1 : Hid (Blk (((((w.alloc (.cells #[.int .i64 mo, .int .i64 cr, .int .i64 st, .int .i64 sq, .int .i64 pe, .int .i64 cc, .int .i64 ms, .string da] 59)).alloc (.cells #[.int .i64 kd, .int .i64 psq, .int .i64 pn, .bool self, .string d] 110)).alloc (.cells #[.int .i64 0, .int .i64 0, .int .i64 0, .int .i64 0, .int .i64 0, .int .i64 0, .int .i64 0, .string { data := #[] }] 59)).alloc (.cells #[.slice none 0 0, .slice none 0 0, .bool false, .bool false, .int .i64 0, .int .i64 0] 90)).alloc (.cells #[.slice none 0 0, .slice none 0 0, .bool false, .bool false, .int .i64 0, .int .i64 0] 90)) (w.heap.size + 1 + 1 + 1) 90 [.slice none 0 0, .slice none 0 0, .bool false, .bool false, .int .i64 0, .int .i64 0]) := by
    have := (Blk.new (((w.alloc (.cells #[.int .i64 mo, .int .i64 cr, .int .i64 st, .int .i64 sq, .int .i64 pe, .int .i64 cc, .int .i64 ms, .string da] 59)).alloc (.cells #[.int .i64 kd, .int .i64 psq, .int .i64 pn, .bool self, .string d] 110)).alloc (.cells #[.int .i64 0, .int .i64 0, .int .i64 0, .int .i64 0, .int .i64 0, .int .i64 0, .int .i64 0, .string { data := #[] }] 59)) 90 [.slice none 0 0, .slice none 0 0, .bool false, .bool false, .int .i64 0, .int .i64 0]).alloc (.cells #[.slice none 0 0, .slice none 0 0, .bool false, .bool false, .int .i64 0, .int .i64 0] 90)
    rwa [show (((w.alloc (.cells #[.int .i64 mo, .int .i64 cr, .int .i64 st, .int .i64 sq, .int .i64 pe, .int .i64 cc, .int .i64 ms, .string da] 59)).alloc (.cells #[.int .i64 kd, .int .i64 psq, .int .i64 pn, .bool self, .string d] 110)).alloc (.cells #[.int .i64 0, .int .i64 0, .int .i64 0, .int .i64 0, .int .i64 0, .int .i64 0, .int .i64 0, .string { data := #[] }] 59)).heap.size = w.heap.size + 1 + 1 + 1 by simp] at this
  have HGOR : Hid (Kept K w (((((w.alloc (.cells #[.int .i64 mo, .int .i64 cr, .int .i64 st, .int .i64 sq, .int .i64 pe, .int .i64 cc, .int .i64 ms, .string da] 59)).alloc (.cells #[.int .i64 kd, .int .i64 psq, .int .i64 pn, .bool self, .string d] 110)).alloc (.cells #[.int .i64 0, .int .i64 0, .int .i64 0, .int .i64 0, .int .i64 0, .int .i64 0, .int .i64 0, .string { data := #[] }] 59)).alloc (.cells #[.slice none 0 0, .slice none 0 0, .bool false, .bool false, .int .i64 0, .int .i64 0] 90)).alloc (.cells #[.slice none 0 0, .slice none 0 0, .bool false, .bool false, .int .i64 0, .int .i64 0] 90)) (w.heap.size + 1 + 1 + 1)) := .inr ⟨by omega, by simp; try omega⟩
  have HBR1 : Hid (Blk (((((w.alloc (.cells #[.int .i64 mo, .int .i64 cr, .int .i64 st, .int .i64 sq, .int .i64 pe, .int .i64 cc, .int .i64 ms, .string da] 59)).alloc (.cells #[.int .i64 kd, .int .i64 psq, .int .i64 pn, .bool self, .string d] 110)).alloc (.cells #[.int .i64 0, .int .i64 0, .int .i64 0, .int .i64 0, .int .i64 0, .int .i64 0, .int .i64 0, .string { data := #[] }] 59)).alloc (.cells #[.slice none 0 0, .slice none 0 0, .bool false, .bool false, .int .i64 0, .int .i64 0] 90)).alloc (.cells #[.slice none 0 0, .slice none 0 0, .bool false, .bool false, .int .i64 0, .int .i64 0] 90)) (w.heap.size + 1 + 1 + 1 + 1) 90 [.slice none 0 0, .slice none 0 0, .bool false, .bool false, .int .i64 0, .int .i64 0]) := by
    have := Blk.new ((((w.alloc (.cells #[.int .i64 mo, .int .i64 cr, .int .i64 st, .int .i64 sq, .int .i64 pe, .int .i64 cc, .int .i64 ms, .string da] 59)).alloc (.cells #[.int .i64 kd, .int .i64 psq, .int .i64 pn, .bool self, .string d] 110)).alloc (.cells #[.int .i64 0, .int .i64 0, .int .i64 0, .int .i64 0, .int .i64 0, .int .i64 0, .int .i64 0, .string { data := #[] }] 59)).alloc (.cells #[.slice none 0 0, .slice none 0 0, .bool false, .bool false, .int .i64 0, .int .i64 0] 90)) 90 [.slice none 0 0, .slice none 0 0, .bool false, .bool false, .int .i64 0, .int .i64 0]
    rwa [show ((((w.alloc (.cells #[.int .i64 mo, .int .i64 cr, .int .i64 st, .int .i64 sq, .int .i64 pe, .int .i64 cc, .int .i64 ms, .string da] 59)).alloc (.cells #[.int .i64 kd, .int .i64 psq, .int .i64 pn, .bool self, .string d] 110)).alloc (.cells #[.int .i64 0, .int .i64 0, .int .i64 0, .int .i64 0, .int .i64 0, .int .i64 0, .int .i64 0, .string { data := #[] }] 59)).alloc (.cells #[.slice none 0 0, .slice none 0 0, .bool false, .bool false, .int .i64 0, .int .i64 0] 90)).heap.size = w.heap.size + 1 + 1 + 1 + 1 by simp] at this
  have HGR : Hid (Kept K w (((((w.alloc (.cells #[.int .i64 mo, .int .i64 cr, .int .i64 st, .int .i64 sq, .int .i64 pe, .int .i64 cc, .int .i64 ms, .string da] 59)).alloc (.cells #[.int .i64 kd, .int .i64 psq, .int .i64 pn, .bool self, .string d] 110)).alloc (.cells #[.int .i64 0, .int .i64 0, .int .i64 0, .int .i64 0, .int .i64 0, .int .i64 0, .int .i64 0, .string { data := #[] }] 59)).alloc (.cells #[.slice none 0 0, .slice none 0 0, .bool false, .bool false, .int .i64 0, .int .i64 0] 90)).alloc (.cells #[.slice none 0 0, .slice none 0 0, .bool false, .bool false, .int .i64 0, .int .i64 0] 90)) (w.heap.size + 1 + 1 + 1 + 1)) := .inr ⟨by omega, by simp; try omega⟩
  have HL : Hid (∀ k, K k → Kept K w (((((w.alloc (.cells #[.int .i64 mo, .int .i64 cr, .int .i64 st, .int .i64 sq, .int .i64 pe, .int .i64 cc, .int .i64 ms, .string da] 59)).alloc (.cells #[.int .i64 kd, .int .i64 psq, .int .i64 pn, .bool self, .string d] 110)).alloc (.cells #[.int .i64 0, .int .i64 0, .int .i64 0, .int .i64 0, .int .i64 0, .int .i64 0, .int .i64 0, .string { data := #[] }] 59)).alloc (.cells #[.slice none 0 0, .slice none 0 0, .bool false, .bool false, .int .i64 0, .int .i64 0] 90)).alloc (.cells #[.slice none 0 0, .slice none 0 0, .bool false, .bool false, .int .i64 0, .int .i64 0] 90)) k) := fun k e => .inl e
  have HLIM : Hid (∀ k, K k → k < w.heap.size) := h.lim
  have HR1 := Lib.hid (h.keep HF.out)
  have HT1 : Hid (Touch (OfAct K) w (((((w.alloc (.cells #[.int .i64 mo, .int .i64 cr, .int .i64 st, .int .i64 sq, .int .i64 pe, .int .i64 cc, .int .i64 ms, .string da] 59)).alloc (.cells #[.int .i64 kd, .int .i64 psq, .int .i64 pn, .bool self, .string d] 110)).alloc (.cells #[.int .i64 0, .int .i64 0, .int .i64 0, .int .i64 0, .int .i64 0, .int .i64 0, .int .i64 0, .string { data := #[] }] 59)).alloc (.cells #[.slice none 0 0, .slice none 0 0, .bool false, .bool false, .int .i64 0, .int .i64 0] 90)).alloc (.cells #[.slice none 0 0, .slice none 0 0, .bool false, .bool false, .int .i64 0, .int .i64 0] 90))) := HF.out.mono (fun _ _ e => e.elim)
  clear h hlim HF
  go_enter Try.func62, Try.ntmps62
  go_upto_region 2 with (fail)
  generalize (((((w.alloc (.cells #[.int .i64 mo, .int .i64 cr, .int .i64 st, .int .i64 sq, .int .i64 pe, .int .i64 cc, .int .i64 ms, .string da] 59)).alloc (.cells #[.int .i64 kd, .int .i64 psq, .int .i64 pn, .bool self, .string d] 110)).alloc (.cells #[.int .i64 0, .int .i64 0, .int .i64 0, .int .i64 0, .int .i64 0, .int .i64 0, .int .i64 0, .string { data := #[] }] 59)).alloc (.cells #[.slice none 0 0, .slice none 0 0, .bool false, .bool false, .int .i64 0, .int .i64 0] 90)).alloc (.cells #[.slice none 0 0, .slice none 0 0, .bool false, .bool false, .int .i64 0, .int .i64 0] 90)) = w1 at *
  generalize Kept K w w1 = K1 at *
  generalize w.heap.size = g at *
  have HOF := Lib.hid (fun W => refOf_any st kd W)
  have HQQ := Lib.hid hq
  clear hq
  rw [HQQ.out] at HOF
  have xC0 : w1.cell? ⟨g, 0, none⟩ = some (.int .i64 mo) := HBC1.out.cell 0
  have xC1 : w1.cell? ⟨g, 1, none⟩ = some (.int .i64 cr) := HBC1.out.cell 1
  have xC2 : w1.cell? ⟨g, 2, none⟩ = some (.int .i64 st) := HBC1.out.cell 2
  have xC3 : w1.cell? ⟨g, 3, none⟩ = some (.int .i64 sq) := HBC1.out.cell 3
  have xC4 : w1.cell? ⟨g, 4, none⟩ = some (.int .i64 pe) := HBC1.out.cell 4
  have xC5 : w1.cell? ⟨g, 5, none⟩ = some (.int .i64 cc) := HBC1.out.cell 5
  have xC6 : w1.cell? ⟨g, 6, none⟩ = some (.int .i64 ms) := HBC1.out.cell 6
  have xC7 : w1.cell? ⟨g, 7, none⟩ = some (.string da) := HBC1.out.cell 7
  have xU0 : w1.cell? ⟨g + 1, 0, none⟩ = some (.int .i64 kd) := HBU1.out.cell 0
  have xU1 : w1.cell? ⟨g + 1, 1, none⟩ = some (.int .i64 psq) := HBU1.out.cell 1
  have xU2 : w1.cell? ⟨g + 1, 2, none⟩ = some (.int .i64 pn) := HBU1.out.cell 2
  have xU3 : w1.cell? ⟨g + 1, 3, none⟩ = some (.bool self) := HBU1.out.cell 3
  have xU4 : w1.cell? ⟨g + 1, 4, none⟩ = some (.string d) := HBU1.out.cell 4
  go_wp2_with fail
  refine (HOF.out _).mono ?_
  rintro e w2 ⟨rfl, f2⟩
  have HBC2 := Lib.hid (f2.blk HBC1.out (fun e => e))
  have HBU2 := Lib.hid (f2.blk HBU1.out (fun e => e))
  have HBOC2 := Lib.hid (f2.blk HBOC1.out (fun e => e))
  have HBOR2 := Lib.hid (f2.blk HBOR1.out (fun e => e))
  have HBR2 := Lib.hid (f2.blk HBR1.out (fun e => e))
  have HR2 := Lib.hid (HR1.out.old f2)
  have HT2 : Hid (Touch (OfAct K) w w2) := HT1.out.trans f2 (fun _ _ e => e.elim)
  clear xC0 xC1 xC2 xC3 xC4 xC5 xC6 xC7 xU0 xU1 xU2 xU3 xU4
  clear f2 HBC1 HBU1 HBOC1 HBOR1 HBR1 HR1 HT1
  have HN := Lib.hid hn
  have b1 : (q == 1) = false := by simpa using hn.1
  have b2 : (q == 2) = false := by simpa using hn.2.1
  have b3 : (q == 3) = false := by simpa using hn.2.2.1
  have b4 : (q == 4) = false := by simpa using hn.2.2.2
  have b5 : (q != 1) = true := by simpa using hn.1
  clear hn
  have xC0 : w2.cell? ⟨g, 0, none⟩ = some (.int .i64 mo) := HBC2.out.cell 0
  have xC1 : w2.cell? ⟨g, 1, none⟩ = some (.int .i64 cr) := HBC2.out.cell 1
  have xC2 : w2.cell? ⟨g, 2, none⟩ = some (.int .i64 st) := HBC2.out.cell 2
  have xC3 : w2.cell? ⟨g, 3, none⟩ = some (.int .i64 sq) := HBC2.out.cell 3
  have xC4 : w2.cell? ⟨g, 4, none⟩ = some (.int .i64 pe) := HBC2.out.cell 4
  have xC5 : w2.cell? ⟨g, 5, none⟩ = some (.int .i64 cc) := HBC2.out.cell 5
  have xC6 : w2.cell? ⟨g, 6, none⟩ = some (.int .i64 ms) := HBC2.out.cell 6
  have xC7 : w2.cell? ⟨g, 7, none⟩ = some (.string da) := HBC2.out.cell 7
  have xR0 : w2.cell? ⟨g + 1 + 1 + 1 + 1, 0, none⟩ = some (.slice none 0 0) := HBR2.out.cell 0
  have xR1 : w2.cell? ⟨g + 1 + 1 + 1 + 1, 1, none⟩ = some (.slice none 0 0) := HBR2.out.cell 1
  have xR2 : w2.cell? ⟨g + 1 + 1 + 1 + 1, 2, none⟩ = some (.bool false) := HBR2.out.cell 2
  have xR3 : w2.cell? ⟨g + 1 + 1 + 1 + 1, 3, none⟩ = some (.bool false) := HBR2.out.cell 3
  have xR4 : w2.cell? ⟨g + 1 + 1 + 1 + 1, 4, none⟩ = some (.int .i64 0) := HBR2.out.cell 4
  have xR5 : w2.cell? ⟨g + 1 + 1 + 1 + 1, 5, none⟩ = some (.int .i64 0) := HBR2.out.cell 5
  have xOC0 : w2.cell? ⟨g + 1 + 1, 0, none⟩ = some (.int .i64 0) := HBOC2.out.cell 0
  have fOC0 := HBOC2.out.frozen 0
  have xOC1 : w2.cell? ⟨g + 1 + 1, 1, none⟩ = some (.int .i64 0) := HBOC2.out.cell 1
  have fOC1 := HBOC2.out.frozen 1
  have xOC2 : w2.cell? ⟨g + 1 + 1, 2, none⟩ = some (.int .i64 0) := HBOC2.out.cell 2
  have fOC2 := HBOC2.out.frozen 2
  have xOC3 : w2.cell? ⟨g + 1 + 1, 3, none⟩ = some (.int .i64 0) := HBOC2.out.cell 3
  have fOC3 := HBOC2.out.frozen 3
  have xOC4 : w2.cell? ⟨g + 1 + 1, 4, none⟩ = some (.int .i64 0) := HBOC2.out.cell 4
  have fOC4 := HBOC2.out.frozen 4
  have xOC5 : w2.cell? ⟨g + 1 + 1, 5, none⟩ = some (.int .i64 0) := HBOC2.out.cell 5
  have fOC5 := HBOC2.out.frozen 5
  have xOC6 : w2.cell? ⟨g + 1 + 1, 6, none⟩ = some (.int .i64 0) := HBOC2.out.cell 6
  have fOC6 := HBOC2.out.frozen 6
  have xOC7 : w2.cell? ⟨g + 1 + 1, 7, none⟩ = some (.string { data := #[] }) := HBOC2.out.cell 7
  have fOC7 := HBOC2.out.frozen 7
  have xOR0 : w2.cell? ⟨g + 1 + 1 + 1, 0, none⟩ = some (.slice none 0 0) := HBOR2.out.cell 0
  have fOR0 := HBOR2.out.frozen 0
  have xOR1 : w2.cell? ⟨g + 1 + 1 + 1, 1, none⟩ = some (.slice none 0 0) := HBOR2.out.cell 1
  have fOR1 := HBOR2.out.frozen 1
  have xOR2 : w2.cell? ⟨g + 1 + 1 + 1, 2, none⟩ = some (.bool false) := HBOR2.out.cell 2
  have fOR2 := HBOR2.out.frozen 2
  have xOR3 : w2.cell? ⟨g + 1 + 1 + 1, 3, none⟩ = some (.bool false) := HBOR2.out.cell 3
  have fOR3 := HBOR2.out.frozen 3
  have xOR4 : w2.cell? ⟨g + 1 + 1 + 1, 4, none⟩ = some (.int .i64 0) := HBOR2.out.cell 4
  have fOR4 := HBOR2.out.frozen 4
  have xOR5 : w2.cell? ⟨g + 1 + 1 + 1, 5, none⟩ = some (.int .i64 0) := HBOR2.out.cell 5
  have fOR5 := HBOR2.out.frozen 5
  have xU0 : w2.cell? ⟨g + 1, 0, none⟩ = some (.int .i64 kd) := HBU2.out.cell 0
  have xU1 : w2.cell? ⟨g + 1, 1, none⟩ = some (.int .i64 psq) := HBU2.out.cell 1
  have xU2 : w2.cell? ⟨g + 1, 2, none⟩ = some (.int .i64 pn) := HBU2.out.cell 2
  have xU3 : w2.cell? ⟨g + 1, 3, none⟩ = some (.bool self) := HBU2.out.cell 3
  have xU4 : w2.cell? ⟨g + 1, 4, none⟩ = some (.string d) := HBU2.out.cell 4
  go_wp2
  go_region
  have htq3_1 : Touch (· = g + 1 + 1) w2 ((((((((w2.setCell ⟨g + 1 + 1, 0, none⟩ (.int .i64 mo)).setCell ⟨g + 1 + 1, 1, none⟩ (.int .i64 cr)).setCell ⟨g + 1 + 1, 2, none⟩ (.int .i64 st)).setCell ⟨g + 1 + 1, 3, none⟩ (.int .i64 sq)).setCell ⟨g + 1 + 1, 4, none⟩ (.int .i64 pe)).setCell ⟨g + 1 + 1, 5, none⟩ (.int .i64 cc)).setCell ⟨g + 1 + 1, 6, none⟩ (.int .i64 ms)).setCell ⟨g + 1 + 1, 7, none⟩ (.string da)) := (((((((((Touch.refl _ w2).st (S := (· = g + 1 + 1)) (u := .int .i64 mo) (by exact rfl)).st (S := (· = g + 1 + 1)) (u := .int .i64 cr) (by exact rfl)).st (S := (· = g + 1 + 1)) (u := .int .i64 st) (by exact rfl)).st (S := (· = g + 1 + 1)) (u := .int .i64 sq) (by exact rfl)).st (S := (· = g + 1 + 1)) (u := .int .i64 pe) (by exact rfl)).st (S := (· = g + 1 + 1)) (u := .int .i64 cc) (by exact rfl)).st (S := (· = g + 1 + 1)) (u := .int .i64 ms) (by exact rfl)).st (S := (· = g + 1 + 1)) (u := .string da) (by exact rfl))
  have hbq3_1 : Blk ((((((((w2.setCell ⟨g + 1 + 1, 0, none⟩ (.int .i64 mo)).setCell ⟨g + 1 + 1, 1, none⟩ (.int .i64 cr)).setCell ⟨g + 1 + 1, 2, none⟩ (.int .i64 st)).setCell ⟨g + 1 + 1, 3, none⟩ (.int .i64 sq)).setCell ⟨g + 1 + 1, 4, none⟩ (.int .i64 pe)).setCell ⟨g + 1 + 1, 5, none⟩ (.int .i64 cc)).setCell ⟨g + 1 + 1, 6, none⟩ (.int .i64 ms)).setCell ⟨g + 1 + 1, 7, none⟩ (.string da)) (g + 1 + 1) 59 [.int .i64 mo, .int .i64 cr, .int .i64 st, .int .i64 sq, .int .i64 pe, .int .i64 cc, .int .i64 ms, .string da] := ((((((((HBOC2.out.set 0 (.int .i64 mo)).set 1 (.int .i64 cr)).set 2 (.int .i64 st)).set 3 (.int .i64 sq)).set 4 (.int .i64 pe)).set 5 (.int .i64 cc)).set 6 (.int .i64 ms)).set 7 (.string da))
  have hoq3_1C := htq3_1.blk HBC2.out (by intro e; have e : g = g + 1 + 1 := e; omega)
  have hoq3_1U := htq3_1.blk HBU2.out (by intro e; have e : g + 1 = g + 1 + 1 := e; omega)
  have hoq3_1OR := htq3_1.blk HBOR2.out (by intro e; have e : g + 1 + 1 + 1 = g + 1 + 1 := e; omega)
  have hoq3_1R := htq3_1.blk HBR2.out (by intro e; have e : g + 1 + 1 + 1 + 1 = g + 1 + 1 := e; omega)
  have hrq3_1 := HR2.out.touch htq3_1 (fun k e => by have e : k = g + 1 + 1 := e; rw [e]; exact HGOC.out)
  have hTq3_1 : Touch (OfAct K) w ((((((((w2.setCell ⟨g + 1 + 1, 0, none⟩ (.int .i64 mo)).setCell ⟨g + 1 + 1, 1, none⟩ (.int .i64 cr)).setCell ⟨g + 1 + 1, 2, none⟩ (.int .i64 st)).setCell ⟨g + 1 + 1, 3, none⟩ (.int .i64 sq)).setCell ⟨g + 1 + 1, 4, none⟩ (.int .i64 pe)).setCell ⟨g + 1 + 1, 5, none⟩ (.int .i64 cc)).setCell ⟨g + 1 + 1, 6, none⟩ (.int .i64 ms)).setCell ⟨g + 1 + 1, 7, none⟩ (.string da)) := HT2.out.trans htq3_1 (fun k _ e => by have e : k = g + 1 + 1 := e; intro hk; have := HLIM.out k hk; omega)
  have htq3_2 : Touch (· = g + 1 + 1 + 1) ((((((((w2.setCell ⟨g + 1 + 1, 0, none⟩ (.int .i64 mo)).setCell ⟨g + 1 + 1, 1, none⟩ (.int .i64 cr)).setCell ⟨g + 1 + 1, 2, none⟩ (.int .i64 st)).setCell ⟨g + 1 + 1, 3, none⟩ (.int .i64 sq)).setCell ⟨g + 1 + 1, 4, none⟩ (.int .i64 pe)).setCell ⟨g + 1 + 1, 5, none⟩ (.int .i64 cc)).setCell ⟨g + 1 + 1, 6, none⟩ (.int .i64 ms)).setCell ⟨g + 1 + 1, 7, none⟩ (.string da)) ((((((((((((((w2.setCell ⟨g + 1 + 1, 0, none⟩ (.int .i64 mo)).setCell ⟨g + 1 + 1, 1, none⟩ (.int .i64 cr)).setCell ⟨g + 1 + 1, 2, none⟩ (.int .i64 st)).setCell ⟨g + 1 + 1, 3, none⟩ (.int .i64 sq)).setCell ⟨g + 1 + 1, 4, none⟩ (.int .i64 pe)).setCell ⟨g + 1 + 1, 5, none⟩ (.int .i64 cc)).setCell ⟨g + 1 + 1, 6, none⟩ (.int .i64 ms)).setCell ⟨g + 1 + 1, 7, none⟩ (.string da)).setCell ⟨g + 1 + 1 + 1, 0, none⟩ (.slice none 0 0)).setCell ⟨g + 1 + 1 + 1, 1, none⟩ (.slice none 0 0)).setCell ⟨g + 1 + 1 + 1, 2, none⟩ (.bool false)).setCell ⟨g + 1 + 1 + 1, 3, none⟩ (.bool false)).setCell ⟨g + 1 + 1 + 1, 4, none⟩ (.int .i64 0)).setCell ⟨g + 1 + 1 + 1, 5, none⟩ (.int .i64 0)) := (((((((Touch.refl _ ((((((((w2.setCell ⟨g + 1 + 1, 0, none⟩ (.int .i64 mo)).setCell ⟨g + 1 + 1, 1, none⟩ (.int .i64 cr)).setCell ⟨g + 1 + 1, 2, none⟩ (.int .i64 st)).setCell ⟨g + 1 + 1, 3, none⟩ (.int .i64 sq)).setCell ⟨g + 1 + 1, 4, none⟩ (.int .i64 pe)).setCell ⟨g + 1 + 1, 5, none⟩ (.int .i64 cc)).setCell ⟨g + 1 + 1, 6, none⟩ (.int .i64 ms)).setCell ⟨g + 1 + 1, 7, none⟩ (.string da))).st (S := (· = g + 1 + 1 + 1)) (u := .slice none 0 0) (by exact rfl)).st (S := (· = g + 1 + 1 + 1)) (u := .slice none 0 0) (by exact rfl)).st (S := (· = g + 1 + 1 + 1)) (u := .bool false) (by exact rfl)).st (S := (· = g + 1 + 1 + 1)) (u := .bool false) (by exact rfl)).st (S := (· = g + 1 + 1 + 1)) (u := .int .i64 0) (by exact rfl)).st (S := (· = g + 1 + 1 + 1)) (u := .int .i64 0) (by exact rfl))
  have hbq3_2 : Blk ((((((((((((((w2.setCell ⟨g + 1 + 1, 0, none⟩ (.int .i64 mo)).setCell ⟨g + 1 + 1, 1, none⟩ (.int .i64 cr)).setCell ⟨g + 1 + 1, 2, none⟩ (.int .i64 st)).setCell ⟨g + 1 + 1, 3, none⟩ (.int .i64 sq)).setCell ⟨g + 1 + 1, 4, none⟩ (.int .i64 pe)).setCell ⟨g + 1 + 1, 5, none⟩ (.int .i64 cc)).setCell ⟨g + 1 + 1, 6, none⟩ (.int .i64 ms)).setCell ⟨g + 1 + 1, 7, none⟩ (.string da)).setCell ⟨g + 1 + 1 + 1, 0, none⟩ (.slice none 0 0)).setCell ⟨g + 1 + 1 + 1, 1, none⟩ (.slice none 0 0)).setCell ⟨g + 1 + 1 + 1, 2, none⟩ (.bool false)).setCell ⟨g + 1 + 1 + 1, 3, none⟩ (.bool false)).setCell ⟨g + 1 + 1 + 1, 4, none⟩ (.int .i64 0)).setCell ⟨g + 1 + 1 + 1, 5, none⟩ (.int .i64 0)) (g + 1 + 1 + 1) 90 [.slice none 0 0, .slice none 0 0, .bool false, .bool false, .int .i64 0, .int .i64 0] := ((((((hoq3_1OR.set 0 (.slice none 0 0)).set 1 (.slice none 0 0)).set 2 (.bool false)).set 3 (.bool false)).set 4 (.int .i64 0)).set 5 (.int .i64 0))
  have hoq3_2C := htq3_2.blk hoq3_1C (by intro e; have e : g = g + 1 + 1 + 1 := e; omega)
  have hoq3_2U := htq3_2.blk hoq3_1U (by intro e; have e : g + 1 = g + 1 + 1 + 1 := e; omega)
  have hoq3_2OC := htq3_2.blk hbq3_1 (by intro e; have e : g + 1 + 1 = g + 1 + 1 + 1 := e; omega)
  have hoq3_2R := htq3_2.blk hoq3_1R (by intro e; have e : g + 1 + 1 + 1 + 1 = g + 1 + 1 + 1 := e; omega)
  have hrq3_2 := hrq3_1.touch htq3_2 (fun k e => by have e : k = g + 1 + 1 + 1 := e; rw [e]; exact HGOR.out)
  have hTq3_2 : Touch (OfAct K) w ((((((((((((((w2.setCell ⟨g + 1 + 1, 0, none⟩ (.int .i64 mo)).setCell ⟨g + 1 + 1, 1, none⟩ (.int .i64 cr)).setCell ⟨g + 1 + 1, 2, none⟩ (.int .i64 st)).setCell ⟨g + 1 + 1, 3, none⟩ (.int .i64 sq)).setCell ⟨g + 1 + 1, 4, none⟩ (.int .i64 pe)).setCell ⟨g + 1 + 1, 5, none⟩ (.int .i64 cc)).setCell ⟨g + 1 + 1, 6, none⟩ (.int .i64 ms)).setCell ⟨g + 1 + 1, 7, none⟩ (.string da)).setCell ⟨g + 1 + 1 + 1, 0, none⟩ (.slice none 0 0)).setCell ⟨g + 1 + 1 + 1, 1, none⟩ (.slice none 0 0)).setCell ⟨g + 1 + 1 + 1, 2, none⟩ (.bool false)).setCell ⟨g + 1 + 1 + 1, 3, none⟩ (.bool false)).setCell ⟨g + 1 + 1 + 1, 4, none⟩ (.int .i64 0)).setCell ⟨g + 1 + 1 + 1, 5, none⟩ (.int .i64 0)) := hTq3_1.trans htq3_2 (fun k _ e => by have e : k = g + 1 + 1 + 1 := e; intro hk; have := HLIM.out k hk; omega)
  clear xC0 xC1 xC2 xC3 xC4 xC5 xC6 xC7 xR0 xR1 xR2 xR3 xR4 xR5 xOC0 fOC0 xOC1 fOC1 xOC2 fOC2 xOC3 fOC3 xOC4 fOC4 xOC5 fOC5 xOC6 fOC6 xOC7 fOC7 xOR0 fOR0 xOR1 fOR1 xOR2 fOR2 xOR3 fOR3 xOR4 fOR4 xOR5 fOR5 xU0 xU1 xU2 xU3 xU4
  have HBC3 : Hid (Blk ((((((((((((((w2.setCell ⟨g + 1 + 1, 0, none⟩ (.int .i64 mo)).setCell ⟨g + 1 + 1, 1, none⟩ (.int .i64 cr)).setCell ⟨g + 1 + 1, 2, none⟩ (.int .i64 st)).setCell ⟨g + 1 + 1, 3, none⟩ (.int .i64 sq)).setCell ⟨g + 1 + 1, 4, none⟩ (.int .i64 pe)).setCell ⟨g + 1 + 1, 5, none⟩ (.int .i64 cc)).setCell ⟨g + 1 + 1, 6, none⟩ (.int .i64 ms)).setCell ⟨g + 1 + 1, 7, none⟩ (.string da)).setCell ⟨g + 1 + 1 + 1, 0, none⟩ (.slice none 0 0)).setCell ⟨g + 1 + 1 + 1, 1, none⟩ (.slice none 0 0)).setCell ⟨g + 1 + 1 + 1, 2, none⟩ (.bool false)).setCell ⟨g + 1 + 1 + 1, 3, none⟩ (.bool false)).setCell ⟨g + 1 + 1 + 1, 4, none⟩ (.int .i64 0)).setCell ⟨g + 1 + 1 + 1, 5, none⟩ (.int .i64 0)).drew (g) 59 [.int .i64 mo, .int .i64 cr, .int .i64 st, .int .i64 sq, .int .i64 pe, .int .i64 cc, .int .i64 ms, .string da]) := Blk.drew hoq3_2C
  have HBU3 : Hid (Blk ((((((((((((((w2.setCell ⟨g + 1 + 1, 0, none⟩ (.int .i64 mo)).setCell ⟨g + 1 + 1, 1, none⟩ (.int .i64 cr)).setCell ⟨g + 1 + 1, 2, none⟩ (.int .i64 st)).setCell ⟨g + 1 + 1, 3, none⟩ (.int .i64 sq)).setCell ⟨g + 1 + 1, 4, none⟩ (.int .i64 pe)).setCell ⟨g + 1 + 1, 5, none⟩ (.int .i64 cc)).setCell ⟨g + 1 + 1, 6, none⟩ (.int .i64 ms)).setCell ⟨g + 1 + 1, 7, none⟩ (.string da)).setCell ⟨g + 1 + 1 + 1, 0, none⟩ (.slice none 0 0)).setCell ⟨g + 1 + 1 + 1, 1, none⟩ (.slice none 0 0)).setCell ⟨g + 1 + 1 + 1, 2, none⟩ (.bool false)).setCell ⟨g + 1 + 1 + 1, 3, none⟩ (.bool false)).setCell ⟨g + 1 + 1 + 1, 4, none⟩ (.int .i64 0)).setCell ⟨g + 1 + 1 + 1, 5, none⟩ (.int .i64 0)).drew (g + 1) 110 [.int .i64 kd, .int .i64 psq, .int .i64 pn, .bool self, .string d]) := Blk.drew hoq3_2U
  have HBOC3 : Hid (Blk ((((((((((((((w2.setCell ⟨g + 1 + 1, 0, none⟩ (.int .i64 mo)).setCell ⟨g + 1 + 1, 1, none⟩ (.int .i64 cr)).setCell ⟨g + 1 + 1, 2, none⟩ (.int .i64 st)).setCell ⟨g + 1 + 1, 3, none⟩ (.int .i64 sq)).setCell ⟨g + 1 + 1, 4, none⟩ (.int .i64 pe)).setCell ⟨g + 1 + 1, 5, none⟩ (.int .i64 cc)).setCell ⟨g + 1 + 1, 6, none⟩ (.int .i64 ms)).setCell ⟨g + 1 + 1, 7, none⟩ (.string da)).setCell ⟨g + 1 + 1 + 1, 0, none⟩ (.slice none 0 0)).setCell ⟨g + 1 + 1 + 1, 1, none⟩ (.slice none 0 0)).setCell ⟨g + 1 + 1 + 1, 2, none⟩ (.bool false)).setCell ⟨g + 1 + 1 + 1, 3, none⟩ (.bool false)).setCell ⟨g + 1 + 1 + 1, 4, none⟩ (.int .i64 0)).setCell ⟨g + 1 + 1 + 1, 5, none⟩ (.int .i64 0)).drew (g + 1 + 1) 59 [.int .i64 mo, .int .i64 cr, .int .i64 st, .int .i64 sq, .int .i64 pe, .int .i64 cc, .int .i64 ms, .string da]) := Blk.drew hoq3_2OC
  have HBOR3 : Hid (Blk ((((((((((((((w2.setCell ⟨g + 1 + 1, 0, none⟩ (.int .i64 mo)).setCell ⟨g + 1 + 1, 1, none⟩ (.int .i64 cr)).setCell ⟨g + 1 + 1, 2, none⟩ (.int .i64 st)).setCell ⟨g + 1 + 1, 3, none⟩ (.int .i64 sq)).setCell ⟨g + 1 + 1, 4, none⟩ (.int .i64 pe)).setCell ⟨g + 1 + 1, 5, none⟩ (.int .i64 cc)).setCell ⟨g + 1 + 1, 6, none⟩ (.int .i64 ms)).setCell ⟨g + 1 + 1, 7, none⟩ (.string da)).setCell ⟨g + 1 + 1 + 1, 0, none⟩ (.slice none 0 0)).setCell ⟨g + 1 + 1 + 1, 1, none⟩ (.slice none 0 0)).setCell ⟨g + 1 + 1 + 1, 2, none⟩ (.bool false)).setCell ⟨g + 1 + 1 + 1, 3, none⟩ (.bool false)).setCell ⟨g + 1 + 1 + 1, 4, none⟩ (.int .i64 0)).setCell ⟨g + 1 + 1 + 1, 5, none⟩ (.int .i64 0)).drew (g + 1 + 1 + 1) 90 [.slice none 0 0, .slice none 0 0, .bool false, .bool false, .int .i64 0, .int .i64 0]) := Blk.drew hbq3_2
  have HBR3 : Hid (Blk ((((((((((((((w2.setCell ⟨g + 1 + 1, 0, none⟩ (.int .i64 mo)).setCell ⟨g + 1 + 1, 1, none⟩ (.int .i64 cr)).setCell ⟨g + 1 + 1, 2, none⟩ (.int .i64 st)).setCell ⟨g + 1 + 1, 3, none⟩ (.int .i64 sq)).setCell ⟨g + 1 + 1, 4, none⟩ (.int .i64 pe)).setCell ⟨g + 1 + 1, 5, none⟩ (.int .i64 cc)).setCell ⟨g + 1 + 1, 6, none⟩ (.int .i64 ms)).setCell ⟨g + 1 + 1, 7, none⟩ (.string da)).setCell ⟨g + 1 + 1 + 1, 0, none⟩ (.slice none 0 0)).setCell ⟨g + 1 + 1 + 1, 1, none⟩ (.slice none 0 0)).setCell ⟨g + 1 + 1 + 1, 2, none⟩ (.bool false)).setCell ⟨g + 1 + 1 + 1, 3, none⟩ (.bool false)).setCell ⟨g + 1 + 1 + 1, 4, none⟩ (.int .i64 0)).setCell ⟨g + 1 + 1 + 1, 5, none⟩ (.int .i64 0)).drew (g + 1 + 1 + 1 + 1) 90 [.slice none 0 0, .slice none 0 0, .bool false, .bool false, .int .i64 0, .int .i64 0]) := Blk.drew hoq3_2R
  have HR3 := Lib.hid (RIn.old hrq3_2 (Touch.refl _ ((((((((((((((w2.setCell ⟨g + 1 + 1, 0, none⟩ (.int .i64 mo)).setCell ⟨g + 1 + 1, 1, none⟩ (.int .i64 cr)).setCell ⟨g + 1 + 1, 2, none⟩ (.int .i64 st)).setCell ⟨g + 1 + 1, 3, none⟩ (.int .i64 sq)).setCell ⟨g + 1 + 1, 4, none⟩ (.int .i64 pe)).setCell ⟨g + 1 + 1, 5, none⟩ (.int .i64 cc)).setCell ⟨g + 1 + 1, 6, none⟩ (.int .i64 ms)).setCell ⟨g + 1 + 1, 7, none⟩ (.string da)).setCell ⟨g + 1 + 1 + 1, 0, none⟩ (.slice none 0 0)).setCell ⟨g + 1 + 1 + 1, 1, none⟩ (.slice none 0 0)).setCell ⟨g + 1 + 1 + 1, 2, none⟩ (.bool false)).setCell ⟨g + 1 + 1 + 1, 3, none⟩ (.bool false)).setCell ⟨g + 1 + 1 + 1, 4, none⟩ (.int .i64 0)).setCell ⟨g + 1 + 1 + 1, 5, none⟩ (.int .i64 0))).drew)
  have HT3 : Hid (Touch (OfAct K) w ((((((((((((((w2.setCell ⟨g + 1 + 1, 0, none⟩ (.int .i64 mo)).setCell ⟨g + 1 + 1, 1, none⟩ (.int .i64 cr)).setCell ⟨g + 1 + 1, 2, none⟩ (.int .i64 st)).setCell ⟨g + 1 + 1, 3, none⟩ (.int .i64 sq)).setCell ⟨g + 1 + 1, 4, none⟩ (.int .i64 pe)).setCell ⟨g + 1 + 1, 5, none⟩ (.int .i64 cc)).setCell ⟨g + 1 + 1, 6, none⟩ (.int .i64 ms)).setCell ⟨g + 1 + 1, 7, none⟩ (.string da)).setCell ⟨g + 1 + 1 + 1, 0, none⟩ (.slice none 0 0)).setCell ⟨g + 1 + 1 + 1, 1, none⟩ (.slice none 0 0)).setCell ⟨g + 1 + 1 + 1, 2, none⟩ (.bool false)).setCell ⟨g + 1 + 1 + 1, 3, none⟩ (.bool false)).setCell ⟨g + 1 + 1 + 1, 4, none⟩ (.int .i64 0)).setCell ⟨g + 1 + 1 + 1, 5, none⟩ (.int .i64 0)).drew) := Touch.drew hTq3_2
  clear HBC2 HBU2 HBOC2 HBOR2 HBR2 HR2 HT2 htq3_1 hbq3_1 hrq3_1 hTq3_1 hoq3_1C hoq3_1U hoq3_1OR hoq3_1R htq3_2 hbq3_2 hrq3_2 hTq3_2 hoq3_2C hoq3_2U hoq3_2OC hoq3_2R
  generalize ((((((((((((((w2.setCell ⟨g + 1 + 1, 0, none⟩ (.int .i64 mo)).setCell ⟨g + 1 + 1, 1, none⟩ (.int .i64 cr)).setCell ⟨g + 1 + 1, 2, none⟩ (.int .i64 st)).setCell ⟨g + 1 + 1, 3, none⟩ (.int .i64 sq)).setCell ⟨g + 1 + 1, 4, none⟩ (.int .i64 pe)).setCell ⟨g + 1 + 1, 5, none⟩ (.int .i64 cc)).setCell ⟨g + 1 + 1, 6, none⟩ (.int .i64 ms)).setCell ⟨g + 1 + 1, 7, none⟩ (.string da)).setCell ⟨g + 1 + 1 + 1, 0, none⟩ (.slice none 0 0)).setCell ⟨g + 1 + 1 + 1, 1, none⟩ (.slice none 0 0)).setCell ⟨g + 1 + 1 + 1, 2, none⟩ (.bool false)).setCell ⟨g + 1 + 1 + 1, 3, none⟩ (.bool false)).setCell ⟨g + 1 + 1 + 1, 4, none⟩ (.int .i64 0)).setCell ⟨g + 1 + 1 + 1, 5, none⟩ (.int .i64 0)).drew = w3 at *
  have HAE : Hid (Cn.hear q lt (⟨mo, cr, st, sq, pe, cc, ms, da⟩, Cn.r0) ⟨kd, psq, pn, 0, 0, none, 0, 0, self, d⟩ = ((⟨mo, cr, st, sq, pe, cc, ms, da⟩ : Cn.S), Cn.r0)) := by unfold Hid; obtain ⟨n1, n2, n3, n4⟩ := HN.out; unfold Cn.hear; rw [if_neg n1, if_neg n2, if_neg n3, if_neg n4]
  have HX : Hid (∀ e, e = .returned (.tuple #[.agg #[.int .i64 mo, .int .i64 cr, .int .i64 st, .int .i64 sq, .int .i64 pe, .int .i64 cc, .int .i64 ms, .string da], .agg #[.slice none 0 0, .slice none 0 0, .bool false, .bool false, .int .i64 0, .int .i64 0]]) → RPost K (0 + 9) (Cn.hear q lt (⟨mo, cr, st, sq, pe, cc, ms, da⟩, Cn.r0) ⟨kd, psq, pn, 0, 0, none, 0, 0, self, d⟩) w e w3) := fun e he => ⟨RP.nil, he.trans (by (rw [HAE.out]; rfl)), by (refine ((HR3.out.less HL.out).wide (by omega)).eq ?_ ?_ <;> (rw [HAE.out])), HT3.out⟩
  have zOC0 : w3.cell? ⟨g + 1 + 1, 0, none⟩ = some (.int .i64 mo) := HBOC3.out.cell 0
  have zOC1 : w3.cell? ⟨g + 1 + 1, 1, none⟩ = some (.int .i64 cr) := HBOC3.out.cell 1
  have zOC2 : w3.cell? ⟨g + 1 + 1, 2, none⟩ = some (.int .i64 st) := HBOC3.out.cell 2
  have zOC3 : w3.cell? ⟨g + 1 + 1, 3, none⟩ = some (.int .i64 sq) := HBOC3.out.cell 3
  have zOC4 : w3.cell? ⟨g + 1 + 1, 4, none⟩ = some (.int .i64 pe) := HBOC3.out.cell 4
  have zOC5 : w3.cell? ⟨g + 1 + 1, 5, none⟩ = some (.int .i64 cc) := HBOC3.out.cell 5
  have zOC6 : w3.cell? ⟨g + 1 + 1, 6, none⟩ = some (.int .i64 ms) := HBOC3.out.cell 6
  have zOC7 : w3.cell? ⟨g + 1 + 1, 7, none⟩ = some (.string da) := HBOC3.out.cell 7
  have zOR0 : w3.cell? ⟨g + 1 + 1 + 1, 0, none⟩ = some (.slice none 0 0) := HBOR3.out.cell 0
  have zOR1 : w3.cell? ⟨g + 1 + 1 + 1, 1, none⟩ = some (.slice none 0 0) := HBOR3.out.cell 1
  have zOR2 : w3.cell? ⟨g + 1 + 1 + 1, 2, none⟩ = some (.bool false) := HBOR3.out.cell 2
  have zOR3 : w3.cell? ⟨g + 1 + 1 + 1, 3, none⟩ = some (.bool false) := HBOR3.out.cell 3
  have zOR4 : w3.cell? ⟨g + 1 + 1 + 1, 4, none⟩ = some (.int .i64 0) := HBOR3.out.cell 4
  have zOR5 : w3.cell? ⟨g + 1 + 1 + 1, 5, none⟩ = some (.int .i64 0) := HBOR3.out.cell 5
  go_wp2
  exact bodyPost_ret (v := _) (by simp [results, Try.results62, go_sem, zOC0, zOC1, zOC2, zOC3, zOC4, zOC5, zOC6, zOC7, zOR0, zOR1, zOR2, zOR3, zOR4, zOR5]) rfl (HX.out _ rfl)
end Go.Proofs.Ytkmegkjkbalooaa
