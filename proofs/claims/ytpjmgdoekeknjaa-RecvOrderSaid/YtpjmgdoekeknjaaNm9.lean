/-
  gaps.Named, ref09.Named: the numbers that a status names.
-/
import Derived.Test.YtpjmgdoekeknjaaNmW
namespace Go.Proofs.Ytpjmgdoekeknjaa
open Go.RowKit

/-- The PDU as a value. -/
def pduV (kind sq n ps mr : Int) (A : Option Addr) (len c : Nat) (self : Bool) (data : ByteArray) : Value :=
  .agg #[.int .i64 kind, .int .i64 sq, .int .u32 n, .int .u32 ps, .int .u32 mr, .slice A len c, .bool self, .string data]

set_option maxHeartbeats 4000000 in
theorem named_no (kind sq n ps mr : Int) (A : Option Addr) (c : Nat) (l : List Int) (self : Bool) (data : ByteArray) (w : World) (h1 : kind ≠ 11) (h2 : kind ≠ 12) :
    Calls Try.prog 29 #[pduV kind sq n ps mr A l.length c self data] w fun e w' => e = .returned (.slice none 0 0) ∧ Fresh w w' := by
  have e1 : (kind != 11) = true := by simpa using h1
  have e2 : (kind != 12) = true := by simpa using h2
  clear h1 h2
  unfold pduV
  go_enter Try.func29, Try.ntmps29
  go_wp2
  go_ret
  exact ⟨rfl, (Touch.refl _ _).alloc _⟩

set_option maxHeartbeats 4000000 in
theorem named_any (kind sq n ps mr : Int) (A : Option Addr) (c : Nat) (l : List Int) (self : Bool) (data : ByteArray) (w : World) (h : Rd numE w A c l) (hl : l.length ≤ 1000000) (hk : kind = 11 ∨ kind = 12) :
    Calls Try.prog 29 #[pduV kind sq n ps mr A l.length c self data] w fun e w' => ∃ C d, e = .returned (.slice C (Gp.nm 65536 l (l.length / 2)).length d) ∧ Mine numE w w' C d (Gp.nm 65536 l (l.length / 2)) := by
  have H := Lib.hid h
  clear h
  have hmm := @run_makeMap Try.prog
  unfold pduV
  have W1 : Hid (∀ W, Fresh w W → Rd numE W A c l) := fun W hf => H.out.touch hf (fun _ _ _ h => h)
  obtain ⟨k1, hk1⟩ : ∃ k1 : Bool, (kind != 11) = k1 := ⟨_, rfl⟩
  obtain ⟨k2, hk2⟩ : ∃ k2 : Bool, (kind != 12) = k2 := ⟨_, rfl⟩
  have hkk : k1 = false ∨ (k1 = true ∧ k2 = false) := by
    rcases hk with rfl | rfl
    · left; rw [← hk1]; rfl
    · right; rw [← hk1, ← hk2]; exact ⟨rfl, rfl⟩
  clear hk
  have HW : Hid (∀ v : Value, NmIn w ((((w.alloc (.cells #[.int .i64 kind, .int .i64 sq, .int .u32 n, .int .u32 ps, .int .u32 mr, .slice A l.length c, .bool self, .string data] 67)).alloc (.cells #[.slice none 0 0] 32)).alloc (.map #[] 0)).alloc (.cells #[.map (some (w.heap.size + 1 + 1))] 99)) (w.heap.size + 1) (w.heap.size + 1 + 1 + 1) (w.heap.size + 1 + 1) none 0 [] []) := fun _ => by
    have b1 := Blk.new (w.alloc (.cells #[.int .i64 kind, .int .i64 sq, .int .u32 n, .int .u32 ps, .int .u32 mr, .slice A l.length c, .bool self, .string data] 67)) 32 [.slice none 0 0]
    have b2 := MapAt.made numK ((w.alloc (.cells #[.int .i64 kind, .int .i64 sq, .int .u32 n, .int .u32 ps, .int .u32 mr, .slice A l.length c, .bool self, .string data] 67)).alloc (.cells #[.slice none 0 0] 32))
    have b3 := Blk.new (((w.alloc (.cells #[.int .i64 kind, .int .i64 sq, .int .u32 n, .int .u32 ps, .int .u32 mr, .slice A l.length c, .bool self, .string data] 67)).alloc (.cells #[.slice none 0 0] 32)).alloc (.map #[] 0)) 99 [.map (some (w.heap.size + 1 + 1))]
    have z1 : ∀ (W : World) (o : Obj), (W.alloc o).heap.size = W.heap.size + 1 := fun W o => by simp
    rw [z1] at b1
    rw [z1, z1] at b2
    rw [z1, z1, z1] at b3
    exact ⟨(b1.alloc _).alloc _, b3, b2.alloc _, ((((Mine.nil numE w).alloc _).alloc _).alloc _).alloc _, by omega, by omega, by omega⟩
  have HPN : Hid (∀ W g s b, Fresh w W → NmIn w W g s b none 0 [] [] → Calls Try.prog 48 #[.slice A l.length c, .func (.func 49) #[] #[.pointer (some ⟨g, 0, none⟩), .pointer (some ⟨s, 0, none⟩)]] W fun e w' => e = .returned (.tuple #[]) ∧ ∃ C d m, NmIn w w' g s b C d (Gp.nm 65536 l (l.length / 2)) m) := fun W g s b _ hn => pairs_nm A c l w W g s b H.out hn hl
  clear H W1
  go_enter Try.func29, Try.ntmps29
  rcases hkk with rfl | ⟨rfl, rfl⟩
  all_goals
    go_upto_region 5 with (fail)
    have HI := Lib.hid (HW.out undef)
    have HF := Lib.hid HI.out.mine.fresh
    clear HW
    go_wp2_with fail
    refine (HPN.out _ _ _ _ HF.out HI.out).mono ?_
    rintro e w2 ⟨rfl, C, d, m, hn⟩
    have c0 : w2.cell? ⟨w.heap.size + 1, 0, none⟩ = some (.slice C (Gp.nm 65536 l (l.length / 2)).length d) := hn.blk.cell 0
    have HM := Lib.hid hn.mine
    clear hn HI HF HPN
    simp only
    go_wp2
    go_ret
    exact ⟨C, d, rfl, HM.out⟩
end Go.Proofs.Ytpjmgdoekeknjaa
