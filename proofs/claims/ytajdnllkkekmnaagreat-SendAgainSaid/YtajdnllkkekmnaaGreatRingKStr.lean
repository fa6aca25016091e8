/-
  ring.Ring[string]: Clone.
-/
import Derived.Test.YtajdnllkkekmnaaGreatRingOStr
import Derived.Test.YtajdnllkkekmnaaGreatCloS
namespace Go.Proofs.YtajdnllkkekmnaaGreat
open Go.RowKit

set_option maxHeartbeats 1000000 in
theorem ringStr_clone (g : Nat) (b : Option Nat) (most : Nat) (q : List ByteArray) (w : World) (h : RingStr w g b most q) :
    Calls Tryz.prog 54 #[.pointer (some ⟨g, 0, none⟩)] w fun e w' => ∃ g' b', e = .returned (.pointer (some ⟨g', 0, none⟩)) ∧ RingStr w' g' b' most q ∧ Fresh w w' ∧ w.heap.size ≤ g' ∧ ∀ k, b' = some k → w.heap.size ≤ k := by
  obtain ⟨A, c, a, buf, hb, hs, rfl, hm1, hm2, hg⟩ := h
  have c0 : w.cell? ⟨g, 0, none⟩ = some (.slice A buf.length c) := hb.cell 0
  have c1 : w.cell? ⟨g, 1, none⟩ = some (.int .i64 a) := hb.cell 1
  have c2 : w.cell? ⟨g, 2, none⟩ = some (.int .i64 q.length) := hb.cell 2
  have c3 : w.cell? ⟨g, 3, none⟩ = some (.int .i64 most) := hb.cell 3
  go_enter Tryz.func54, Tryz.ntmps54
  go_upto_region 1 with (fail)
  clear c0 c1 c2 c3
  go_region_held3 (fun wx => wx.cell? ⟨g, 0, none⟩ = some (.slice A buf.length c) ∧ wx.cell? ⟨g, 1, none⟩ = some (.int .i64 a) ∧ wx.cell? ⟨g, 2, none⟩ = some (.int .i64 q.length) ∧ wx.cell? ⟨g, 3, none⟩ = some (.int .i64 most))
    (first | exact ⟨hb.cell 0, hb.cell 1, hb.cell 2, hb.cell 3⟩ | exact ⟨(t2.blk hb (fun h => h)).cell 0, (t2.blk hb (fun h => h)).cell 1, (t2.blk hb (fun h => h)).cell 2, (t2.blk hb (fun h => h)).cell 3⟩ | exact ⟨((t2.blk hb (fun h => h)).alloc _).cell 0, ((t2.blk hb (fun h => h)).alloc _).cell 1, ((t2.blk hb (fun h => h)).alloc _).cell 2, ((t2.blk hb (fun h => h)).alloc _).cell 3⟩)
    (first | (go_at_call 69; refine (cloneStr_any A c buf _ (by exact hs.rd) (by omega)).mono ?_; rintro e w2 ⟨A2, c2', rfl, s2, t2, hA2⟩))
  all_goals
    go_wp2
    go_ret
    refine ⟨w2.heap.size, A2.map Addr.block, rfl, ⟨A2, c2', a, buf, Blk.new w2 _ [.slice A2 buf.length c2', .int .i64 a, .int .i64 q.length, .int .i64 most], s2.alloc _, rfl, hm1, hm2, hg⟩, (((Touch.refl _ w).drew.trans t2 (fun _ _ h => h)).alloc _), t2.size, fun k hk => ?_⟩
    cases A2 with
    | none => cases hk
    | some ad => simp at hk; subst hk; exact hA2 ad rfl
end Go.Proofs.YtajdnllkkekmnaaGreat
