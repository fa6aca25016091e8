/-
  polliwoglaw14.at: each act of each way may be.
-/
import Derived.Test.YtkmegkjkbalooaaAt14
import Derived.Test.YtkmegkjkbalooaaChk
namespace Go.Proofs.Ytkmegkjkbalooaa
open Go.RowKit

/-- A unit that Check lets pass, by its form. -/
def uGood (p : Cn.Pd) : Bool := p.lA.isNone && p.ln == 0 && p.lc == 0 && decide (0 ≤ p.sq) && decide (p.sq ≤ 255) && decide (0 ≤ p.n) && decide (p.n < 16777216) && p.self == false && p.data.data.isEmpty && p.ps == 0 && p.mr == 0 && (p.kind == 1 || p.kind == 5 || p.kind == 2 || p.kind == 9 || (p.kind == 3 && p.n == 0))
theorem uGood.ok {p : Cn.Pd} (h : uGood p = true) : UOk p := by
  obtain ⟨kd, q, n, a0, a1, lA, ln, lc, sf, ⟨da⟩⟩ := p
  simp only [uGood, Bool.and_eq_true, Bool.or_eq_true, beq_iff_eq, decide_eq_true_eq, Option.isNone_iff_eq_none, Array.isEmpty_iff] at h
  obtain ⟨⟨⟨⟨⟨⟨⟨⟨⟨⟨⟨rfl, rfl⟩, rfl⟩, q0⟩, q1⟩, n0⟩, n1⟩, rfl⟩, rfl⟩, rfl⟩, rfl⟩, hk⟩ := h
  have hn : n % 16777216 = n := by omega
  refine ⟨⟨rfl, rfl, rfl⟩, ⟨n0, by show n < _; omega⟩, fun w => ?_⟩
  rcases hk with (((rfl | rfl) | rfl) | rfl) | ⟨rfl, rfl⟩
  · exact check_1 q n _ (by decide) q0 q1 hn w
  · exact check_5 q n _ (by decide) q0 q1 hn w
  · exact check_2 q n q0 q1 hn w
  · exact check_9 q n q0 q1 hn w
  · exact check_3 q _ (by decide) false q0 q1 w
/-- A result that Same lets pass, by its form. -/
def rGood (r : Cn.R) : Bool := r.sigs.all (fun s => s.n == 0) && r.units.all uGood && decide (0 ≤ r.ms) && decide (r.ms < 4294967296) && decide (r.sigs.length ≤ 100) && decide (r.units.length ≤ 100)
theorem rGood.ok {r : Cn.R} (h : rGood r = true) : ROk r := by
  simp only [rGood, Bool.and_eq_true, List.all_eq_true, beq_iff_eq, decide_eq_true_eq] at h
  obtain ⟨⟨⟨⟨⟨h1, h2⟩, h3⟩, h4⟩, h5⟩, h6⟩ := h
  exact ⟨h1, fun u hu => uGood.ok (h2 u hu), ⟨h3, h4⟩, ⟨h5, h6⟩⟩
def wayRes (k j : Nat) : Cn.R := (Cn.stepS (Cn.run ((Cn.ways.getD k []).take j)) ((Cn.ways.getD k []).getD j (Cn.ac 0 0 0 0 0))).2
set_option maxRecDepth 100000 in
theorem ways_good : ((List.range 10).all fun k => (List.range (Cn.ways.getD k []).length).all fun j => rGood (wayRes k j)) = true := by decide
set_option maxRecDepth 100000 in
theorem ways_may : ((List.range 10).all fun k => (List.range (Cn.ways.getD k []).length).all fun j => Cn.okAct (Cn.run ((Cn.ways.getD k []).take j)) ((Cn.ways.getD k []).getD j (Cn.ac 0 0 0 0 0))) = true := by decide +kernel
theorem ways_ok (k : Nat) (hk : k < 10) (j : Nat) (h : j < (Cn.ways.getD k []).length) : AOk (Cn.run ((Cn.ways.getD k []).take j)) (Cn.ways.getD k [])[j] := by
  constructor
  · have : ∀ k < 10, ∀ a ∈ Cn.ways.getD k [], (∃ n, a = Cn.ac 1 n 0 0 0) ∨ a = Cn.ac 3 81 0 0 0 ∨ a = Cn.ac 0 0 0 2 7 ∨ a = Cn.ac 0 0 4 2 8 ∨ a = Cn.ac 0 0 8 2 8 ∨ a = Cn.ac 0 0 14 0 0 := by
      intro k hk a ha
      rcases (show k = 0 ∨ k = 1 ∨ k = 2 ∨ k = 3 ∨ k = 4 ∨ k = 5 ∨ k = 6 ∨ k = 7 ∨ k = 8 ∨ k = 9 by omega) with e | e | e | e | e | e | e | e | e | e <;> subst e <;> simp [Cn.ways, Cn.readyW] at ha <;> (try rcases ha with e | e | e | e) <;> (try rcases ha with e | e | e) <;> (try rcases ha with e | e) <;> (try subst e) <;> (try subst ha) <;> first | exact Or.inl ⟨_, rfl⟩ | simp
    exact this k hk _ (List.getElem_mem h)
  · have hg := ways_good
    rw [List.all_eq_true] at hg
    have h1 := hg k (List.mem_range.2 hk)
    rw [List.all_eq_true] at h1
    have h2 := h1 j (List.mem_range.2 h)
    have e : wayRes k j = (Cn.stepS (Cn.run ((Cn.ways.getD k []).take j)) (Cn.ways.getD k [])[j]).2 := by
      unfold wayRes
      rw [show (Cn.ways.getD k []).getD j (Cn.ac 0 0 0 0 0) = (Cn.ways.getD k [])[j] by rw [List.getD_eq_getElem?_getD, List.getElem?_eq_getElem h]; rfl]
    rw [e] at h2
    exact rGood.ok h2
  · have hg := ways_may
    rw [List.all_eq_true] at hg
    have h1 := hg k (List.mem_range.2 hk)
    rw [List.all_eq_true] at h1
    have h2 := h1 j (List.mem_range.2 h)
    rw [show (Cn.ways.getD k []).getD j (Cn.ac 0 0 0 0 0) = (Cn.ways.getD k [])[j] by rw [List.getD_eq_getElem?_getD, List.getElem?_eq_getElem h]; rfl] at h2
    exact h2
/-- at(k + 1): the connection and the document's, behind the way. -/
theorem at14_any (w : World) (k : Nat) (hk : k < 10) :
    Calls Try.prog 17 #[.int .i64 ((k : Int) + 1)] w fun e w' => ∃ c, e = .returned (.tuple #[.pointer (some ⟨c, 0, none⟩), rcV (Cn.run (Cn.ways.getD k []))]) ∧ ConnAt w' c (Cn.run (Cn.ways.getD k [])) ∧ Cn.Ok (Cn.run (Cn.ways.getD k [])) ∧ w.heap.size ≤ c ∧ Fresh w w' := at14_dev w k hk (ways_ok k hk)
end Go.Proofs.Ytkmegkjkbalooaa
