/-
  polliwoglaw04.Act: how the acts come in; a row and a list beside it.
-/
import Derived.Test.YtfieckhhckfjiaaAwakeR
import Derived.Test.YtfieckhhckfjiaaOpen
import Derived.Test.YtfieckhhckfjiaaSame
namespace Go.Proofs.Ytfieckhhckfjiaa
open Go.RowKit Go.ChangeShapes Go.WideShapes Go.ChangeAt

def act4E : El (Int × Int) := { e := 46, size := 2, bytes := 16, zero := .agg #[.int .i64 0, .int .i64 0], zel := (0, 0), enc := fun x => [.int .i64 x.1, .int .i64 x.2], len := fun _ => rfl, one := by simp [Value.oneCell'], pos := by decide, zsize := rfl, zenc := rfl }

theorem dec_act4 {H : Type} {enc : TypeId × Value → H} {W : World} (n : Nat) (cs : List Value) (y : DataW H × List MemPlace) (hy : DataW.trod enc Try.prog W 0 (fun _ => true) true n act4E.e cs = some y) : ∃ a, cs = act4E.enc a ∧ True := by
  obtain ⟨hl, m, hf⟩ := open_fields Try.underlying46 (by kernel_rfl) (by kernel_rfl) hy
  match cs, hl with
  | [c0, c1], _ =>
    obtain ⟨_, f0⟩ := hf 0 _ rfl
    obtain ⟨_, f1⟩ := hf 1 _ rfl
    obtain ⟨x0, e0, _, _⟩ := DataW.trod_int Try.underlying3 f0
    obtain ⟨x1, e1, _, _⟩ := DataW.trod_int Try.underlying3 f1
    simp at e0 e1
    subst e0 e1
    exact ⟨(x0, x1), rfl, trivial⟩
theorem open_rd_act4 {H : Type} {enc : TypeId × Value → H} {W : World} {base : Nat} {v : Value} {d : DataW H} {p : List MemPlace}
    (hv : Value.okWide Try.prog W .any base 42 v) (h : DataW.Trod enc Try.prog W 0 (fun _ => true) true 42 v d p) :
    ∃ A c l, v = .slice A l.length c ∧ Rd act4E W A c l := by
  obtain ⟨A, c, l, h1, h2, _⟩ := open_rd act4E Try.underlying42 (by kernel_rfl) dec_act4 hv h
  exact ⟨A, c, l, h1, h2⟩

/-- Act k's cells. -/
theorem Rd.act4_at {w : World} {A : Option Addr} {c : Nat} {l : List (Int × Int)} (h : Rd act4E w A c l) (k : Nat) (hk : k < l.length) :
    ∃ g o, A = some ⟨g, o, none⟩ ∧ g < w.heap.size ∧ w.cell? ⟨g, o + k * 2, none⟩ = some (.int .i64 (l.getD k (0, 0)).1) ∧ w.cell? ⟨g, o + k * 2 + 1, none⟩ = some (.int .i64 (l.getD k (0, 0)).2) := by
  obtain ⟨g, o, hA, hg, hc⟩ := h.at_ k hk
  refine ⟨g, o, hA, hg, ?_, ?_⟩
  · exact hc 0 _ (by simp [act4E, List.getD, List.getElem?_eq_getElem hk])
  · exact hc 1 _ (by simp [act4E, List.getD, List.getElem?_eq_getElem hk])

/-- A row, and a list, each in memory of its own. -/
structure RpSt (B w : World) (g : Nat) (b : Option Nat) (m : Nat) (q : List Int) (A : Option Addr) (c : Nat) (l : List Int) : Prop where
  ring : RingInt w g b m q
  sl : Sl intE w A c l
  fresh : Fresh B w
  hg : B.heap.size ≤ g
  hb : ∀ k, b = some k → B.heap.size ≤ k
  hA : ∀ ad, A = some ad → ¬ Foot g b ad.block

section
variable {B w w' : World} {g m : Nat} {b b' : Option Nat} {q q' l l' : List Int} {A A' : Option Addr} {c c' : Nat}
theorem RpSt.old (h : RpSt B w g b m q A c l) (ht : Fresh w w') : RpSt B w' g b m q A c l :=
  ⟨h.ring.touch ht (fun h => h) (fun _ _ h => h), h.sl.touch ht (fun _ _ h => h), h.fresh.trans ht (fun _ _ h => h), h.hg, h.hb, h.hA⟩
theorem RpSt.ringTo (h : RpSt B w g b m q A c l) (h' : RingInt w' g b' m q') (ht : Touch (Foot g b) w w') (hb' : ∀ k, b' = some k → b = some k ∨ w.heap.size ≤ k) : RpSt B w' g b' m q' A c l := by
  refine ⟨h', h.sl.touch ht h.hA, h.fresh.trans ht (fun k hk hf => ?_), h.hg, fun k hk => ?_, fun ad ha hf => ?_⟩
  · rcases hf with e | e
    · have := h.hg; omega
    · have := h.hb k e; omega
  · rcases hb' k hk with e | e
    · exact h.hb k e
    · have := h.fresh.size; omega
  · rcases hf with e | e
    · exact h.hA ad ha (.inl e)
    · rcases hb' _ e with e | e
      · exact h.hA ad ha (.inr e)
      · have := h.sl.lt ad ha; omega
theorem RpSt.slTo (h : RpSt B w g b m q A c l) (ht : Fresh w w') (hs : Sl intE w' A' c' l') (hA' : ∀ ad, A' = some ad → w.heap.size ≤ ad.block) : RpSt B w' g b m q A' c' l' :=
  ⟨h.ring.touch ht (fun h => h) (fun _ _ h => h), hs, h.fresh.trans ht (fun _ _ h => h), h.hg, h.hb, fun ad ha hf => by have := h.ring.wf _ hf; have := hA' ad ha; omega⟩
theorem RpSt.wf (h : RpSt B w g b m q A c l) : ¬ Foot g b w.heap.size := fun hf => by have := h.ring.wf _ hf; omega
theorem RpSt.own (h : RpSt B w g b m q A c l) : OwnInt B w g m q := ⟨b, h.ring, h.fresh, h.hg, h.hb⟩
theorem RpSt.drewN (h : RpSt B w g b m q A c l) (n : Nat) : RpSt B (w.drewN n) g b m q A c l := h.old ((Touch.refl _ w).drewN n)
theorem RpSt.tail (h : RpSt B w g b m q A c l) (hl : 1 ≤ l.length) : RpSt B w g b m q (if c = 1 then A else A.map (·.add 1)) (c - 1) l.tail := by
  refine ⟨h.ring, ?_, h.fresh, h.hg, h.hb, fun ad ha => ?_⟩
  · have := h.sl.from_ hl
    rw [List.drop_one] at this
    exact this
  · split at ha
    · exact h.hA ad ha
    · cases A with
      | none => cases ha
      | some ad0 =>
        simp only [Option.map_some, Option.some.injEq] at ha
        subst ha
        rw [block_of_add]
        exact h.hA ad0 rfl
end
end Go.Proofs.Ytfieckhhckfjiaa
