/-
  send.Send: what a sender is in memory.
-/
import Derived.Test.YtngljhpplmbglaaRingWStr
import Derived.Test.YtngljhpplmbglaaKey
import Derived.Test.YtngljhpplmbglaaGapE
import Derived.Test.YtngljhpplmbglaaSeq
import Derived.Test.YtngljhpplmbglaaMine
import Derived.RegionTactic
import Derived.ChangeAlike
import Derived.Deep.QuietTactic
import Derived.BigQuiet
import Derived.StillTailTactics
import Derived.Lib.SliceRun
import Derived.Test.YtngljhpplmbglaaRow
namespace Go.Proofs.Ytngljhpplmbglaa
open Go.RowKit

namespace Sd
/-- A sender: its numbers, what waits, what is kept by its numbers, what goes again. -/
structure S where
  s : Int
  a : Int
  ms : Int
  ps : Int
  pa : Int
  units : Int
  polls : Int
  most : Nat
  q : List ByteArray
  m : List (Int × (ByteArray × Int))
  again : List Int

def itemV (p : ByteArray × Int) : Value := .agg #[.string p.1, .int .u32 p.2]
def mapV (m : List (Int × (ByteArray × Int))) : MList Int := m.map fun p => (p.1, itemV p.2)
theorem mapV_set (m : List (Int × (ByteArray × Int))) (k : Int) (v : ByteArray × Int) : mset (mapV m) k (itemV v) = mapV (mset m k v) := mset_lift itemV m k v
theorem mapV_get (m : List (Int × (ByteArray × Int))) (k : Int) : mget (mapV m) k = (mget m k).map itemV := mget_lift itemV m k
theorem mapV_len (m : List (Int × (ByteArray × Int))) : (mapV m).length = m.length := by unfold mapV; rw [List.length_map]

def new (start queue polls : Int) : S :=
  { s := start % 16777216, a := start % 16777216, ms := start % 16777216, ps := start % 16777216, pa := start % 16777216, units := 0, polls := max 1 (min polls 256), most := (max 1 (min queue 256)).toNat, q := [], m := [], again := [] }
def opn (st : S) (x : Int) : S := if (x - st.a) % 16777216 ≤ 8388608 ∧ (st.ms - st.a) % 16777216 ≤ (x - st.a) % 16777216 then { st with ms := x % 16777216 } else st
def out (st : S) (n : Int) (v : ByteArray) : S := { st with m := mset st.m n (v, st.ps), units := st.units + 1 }
def new1 (st : S) (v : ByteArray) (r : List ByteArray) : S := { out { st with q := r } st.s v with s := (st.s + 1) % 16777216 }
def put (st : S) (v : ByteArray) : S := if st.q.length < st.most then { st with q := st.q ++ [v] } else st
end Sd


/-- The cells of a sender. -/
def sendCells (g k : Nat) (A : Option Addr) (c : Nat) (st : Sd.S) : List Value :=
  [.int .u32 st.s, .int .u32 st.a, .int .u32 st.ms, .int .u32 st.ps, .int .u32 st.pa, .int .i64 st.units, .int .i64 st.polls, .pointer (some ⟨g, 0, none⟩), .map (some k), .slice A st.again.length c]

/-- Where the parts of a sender lie. -/
structure SendIn (w : World) (p g : Nat) (b : Option Nat) (k : Nat) (A : Option Addr) (c : Nat) (st : Sd.S) : Prop where
  blk : Blk w p 64 (sendCells g k A c st)
  ring : RingStr w g b st.most st.q
  map : MapAt numK w k (Sd.mapV st.m)
  ag : Sl numE w A c st.again

/-- A sender lies in block p, its parts within F. -/
structure SendAt (w : World) (p : Nat) (F : Nat → Prop) (st : Sd.S) : Prop where
  at_ : ∃ g b k A c, SendIn w p g b k A c st ∧ F g ∧ (∀ x, b = some x → F x) ∧ F k ∧ ∀ ad, A = some ad → F ad.block
  own : F p

section
variable {w w' : World} {p g : Nat} {b : Option Nat} {k : Nat} {A : Option Addr} {c : Nat} {st st' : Sd.S} {F G : Nat → Prop}
theorem SendIn.ne_g (h : SendIn w p g b k A c st) : p ≠ g := by
  obtain ⟨A', c', a', buf, h1, _⟩ := h.ring
  exact h.blk.ne_ h1 (by decide)
theorem SendIn.ne_b (h : SendIn w p g b k A c st) : b ≠ some p := by
  obtain ⟨A', c', a', buf, h1, h2, rfl, _⟩ := h.ring
  intro e
  cases A' with
  | none => cases e
  | some ad => have := h2.blk_ne h.blk (by decide) ad rfl; simp at e; exact this e
theorem SendIn.ne_k (h : SendIn w p g b k A c st) : k ≠ p := h.map.blk_ne h.blk
theorem SendIn.ne_A (h : SendIn w p g b k A c st) : ∀ ad, A = some ad → ad.block ≠ p := h.ag.blk_ne h.blk (by decide)
theorem SendIn.k_ne_g (h : SendIn w p g b k A c st) : k ≠ g := by
  obtain ⟨A', c', a', buf, h1, _⟩ := h.ring
  exact h.map.blk_ne h1
theorem SendIn.k_ne_b (h : SendIn w p g b k A c st) : b ≠ some k := by
  obtain ⟨A', c', a', buf, h1, h2, rfl, _⟩ := h.ring
  intro e
  cases A' with
  | none => cases e
  | some ad =>
    simp at e
    obtain ⟨_, cs, hb, _⟩ := h2.2.2.2 ad rfl
    exact h.map.blk_ne hb e.symm
theorem SendIn.A_ne_g (h : SendIn w p g b k A c st) : ∀ ad, A = some ad → ad.block ≠ g := by
  obtain ⟨A', c', a', buf, h1, _⟩ := h.ring
  exact h.ag.blk_ne h1 (by decide)
theorem SendIn.A_ne_k (h : SendIn w p g b k A c st) : ∀ ad, A = some ad → ad.block ≠ k := fun ad ha e => by
  obtain ⟨_, cs, hb, _⟩ := h.ag.2.2.2 ad ha
  exact h.map.blk_ne hb e.symm
theorem SendIn.A_ne_b (h : SendIn w p g b k A c st) : ∀ ad, A = some ad → b ≠ some ad.block := fun ad ha e => by
  obtain ⟨A', c', a', buf, h1, h2, rfl, _⟩ := h.ring
  cases A' with
  | none => cases e
  | some ad' =>
    simp at e
    obtain ⟨_, cs, hb, _⟩ := h2.2.2.2 ad' rfl
    exact h.ag.blk_ne hb (by decide) ad ha e.symm
theorem SendIn.touch {T : Nat → Prop} (h : SendIn w p g b k A c st) (ht : Touch T w w') (hp : ¬ T p) (hg : ¬ T g) (hb : ∀ x, b = some x → ¬ T x) (hk : ¬ T k) (hA : ∀ ad, A = some ad → ¬ T ad.block) : SendIn w' p g b k A c st :=
  ⟨ht.blk h.blk hp, h.ring.touch ht hg hb, h.map.touch ht hk, h.ag.touch ht hA⟩
/-- A store into one of its numbers. -/
theorem SendIn.scalar (h : SendIn w p g b k A c st) (i : Nat) (u : Value) (hc : (sendCells g k A c st).set i u = sendCells g k A c st') (h1 : st'.most = st.most) (h2 : st'.q = st.q) (h3 : st'.m = st.m) (h4 : st'.again = st.again) :
    SendIn (w.setCell ⟨p, i, none⟩ u) p g b k A c st' := by
  refine ⟨hc ▸ h.blk.set i u, ?_, ?_, ?_⟩
  · rw [h1, h2]
    exact h.ring.touch (Touch.set1 w p i u) (fun e => h.ne_g e.symm) (fun z e e2 => h.ne_b (by rw [e, e2]))
  · rw [h3]
    exact h.map.setCell (by exact h.ne_k) _
  · rw [h4]
    exact h.ag.setCell (p := ⟨p, i, none⟩) h.ne_A _
theorem SendIn.drewN (h : SendIn w p g b k A c st) (n : Nat) : SendIn (w.drewN n) p g b k A c st :=
  h.touch ((Touch.refl (fun _ => False) w).drewN n) (fun h => h) (fun h => h) (fun _ _ h => h) (fun h => h) (fun _ _ h => h)
/-- The parts of a sender that stay within F. -/
structure SendF (p g : Nat) (b : Option Nat) (k : Nat) (A : Option Addr) (F : Nat → Prop) : Prop where
  p : F p
  g : F g
  b : ∀ x, b = some x → F x
  k : F k
  A : ∀ ad, A = some ad → F ad.block
theorem SendAt.mk' (h : SendIn w p g b k A c st) (f : SendF p g b k A F) : SendAt w p F st := ⟨⟨g, b, k, A, c, h, f.g, f.b, f.k, f.A⟩, f.p⟩
theorem SendAt.open_ (h : SendAt w p F st) : ∃ g b k A c, SendIn w p g b k A c st ∧ SendF p g b k A F := by
  obtain ⟨⟨g, b, k, A, c, h1, h2, h3, h4, h5⟩, h6⟩ := h
  exact ⟨g, b, k, A, c, h1, h6, h2, h3, h4, h5⟩
theorem SendAt.mono (h : SendAt w p F st) (hF : ∀ x, F x → G x) : SendAt w p G st := by
  obtain ⟨⟨g, b, k, A, c, h1, h2, h3, h4, h5⟩, h6⟩ := h
  exact ⟨⟨g, b, k, A, c, h1, hF _ h2, fun x e => hF _ (h3 x e), hF _ h4, fun ad e => hF _ (h5 ad e)⟩, hF _ h6⟩
theorem SendAt.touch {T : Nat → Prop} (h : SendAt w p F st) (ht : Touch T w w') (hT : ∀ x, F x → x < w.heap.size → ¬ T x) : SendAt w' p F st := by
  obtain ⟨⟨g, b, k, A, c, h1, h2, h3, h4, h5⟩, h6⟩ := h
  exact ⟨⟨g, b, k, A, c, h1.touch ht (hT _ h6 h1.blk.lt) (hT _ h2 h1.ring.lt) (fun x e => hT _ (h3 x e) (h1.ring.ltb x e)) (hT _ h4 h1.map.lt) (fun ad e => hT _ (h5 ad e) (h1.ag.lt ad e)), h2, h3, h4, h5⟩, h6⟩
theorem SendAt.old (h : SendAt w p F st) (ht : Fresh w w') : SendAt w' p F st := h.touch ht (fun _ _ _ h => h)
theorem SendAt.drewN (h : SendAt w p F st) (n : Nat) : SendAt (w.drewN n) p F st := h.old ((Touch.refl _ w).drewN n)
end
end Go.Proofs.Ytngljhpplmbglaa

namespace Go.Proofs.Ytngljhpplmbglaa
open Go.RowKit

theorem SendF.grown {p g : Nat} {b : Option Nat} {k : Nat} {A : Option Addr} {F : Nat → Prop} (h : SendF p g b k A F) (w : World) : SendF p g b k A (Grown F w) :=
  ⟨.inl h.p, .inl h.g, fun x e => .inl (h.b x e), .inl h.k, fun ad e => .inl (h.A ad e)⟩
theorem SendF.foot {p g : Nat} {b : Option Nat} {k : Nat} {A : Option Addr} {F : Nat → Prop} (h : SendF p g b k A F) (x : Nat) (hx : Foot g b x) : F x := by
  rcases hx with rfl | e
  · exact h.g
  · exact h.b x e

/-- A call of the row turns the row alone. -/
theorem SendIn.ringed {w w' : World} {p g : Nat} {b b' : Option Nat} {k : Nat} {A : Option Addr} {c : Nat} {st : Sd.S} (h : SendIn w p g b k A c st) {q : List ByteArray} (hr : RingStr w' g b' st.most q) (ht : Touch (Foot g b) w w') : SendIn w' p g b' k A c { st with q := q } :=
  ⟨ht.blk h.blk (fun hf => by rcases hf with e | e; exact h.ne_g e; exact h.ne_b e), hr,
   h.map.touch ht (fun hf => by rcases hf with e | e; exact h.k_ne_g e; exact h.k_ne_b e),
   h.ag.touch ht (fun ad ha hf => by rcases hf with e | e; exact h.A_ne_g ad ha e; exact h.A_ne_b ad ha e)⟩

theorem sput_any (p : Nat) (F : Nat → Prop) (st : Sd.S) (v : ByteArray) (w : World) (h : SendAt w p F st) :
    Calls Try.prog 9 #[.pointer (some ⟨p, 0, none⟩), .string v] w fun e w' => e = .returned (.int .i64 (if st.q.length < st.most then 0 else 7)) ∧ SendAt w' p (Grown F w) (Sd.put st v) ∧ Touch F w w' := by
  obtain ⟨g, b, k, A, c, h1, hF⟩ := h.open_
  have c7 : w.cell? ⟨p, 7, none⟩ = some (.pointer (some ⟨g, 0, none⟩)) := h1.blk.cell 7
  have HR := Lib.hid (ringStr_put g b st.most st.q v w h1.ring)
  have HP : Hid (Sd.put st v = { st with q := if st.q.length < st.most then st.q ++ [v] else st.q }) := by
    unfold Hid Sd.put
    split <;> rfl
  have HI := Lib.hid h1
  have HF := Lib.hid hF
  clear h h1 hF
  generalize (if st.q.length < st.most then (0 : Int) else 7) = z at *
  go_enter Try.func9, Try.ntmps9
  go_wp2_with fail
  refine HR.out.mono ?_
  rintro e w1 ⟨rfl, b', hr, ht, hb⟩
  have HX : Hid (SendAt w1 p (Grown F w) (Sd.put st v) ∧ Touch F w w1) := by
    refine ⟨?_, ht.mono fun x _ hx => HF.out.foot x hx⟩
    rw [HP.out]
    refine SendAt.mk' (HI.out.ringed hr ht) ⟨.inl HF.out.p, .inl HF.out.g, fun x e => ?_, .inl HF.out.k, fun ad e => .inl (HF.out.A ad e)⟩
    rcases hb x e with e2 | e2
    · exact .inl (HF.out.b x e2)
    · exact .inr e2
  clear hr ht hb HI HF HR c7 HP
  go_wp2
  go_ret
  exact ⟨rfl, HX.out.1, HX.out.2⟩

theorem sopn_any (p : Nat) (F : Nat → Prop) (st : Sd.S) (x : Int) (w : World) (h : SendAt w p F st) :
    Calls Try.prog 7 #[.pointer (some ⟨p, 0, none⟩), .int .u32 x] w fun e w' => e = .returned (.tuple #[]) ∧ SendAt w' p F (Sd.opn st x) ∧ Touch F w w' := by
  obtain ⟨g, b, k, A, c, h1, hF⟩ := h.open_
  have c1 : w.cell? ⟨p, 1, none⟩ = some (.int .u32 st.a) := h1.blk.cell 1
  have c2 : w.cell? ⟨p, 2, none⟩ = some (.int .u32 st.ms) := h1.blk.cell 2
  have HI := Lib.hid h1
  have HF := Lib.hid hF
  clear h h1 hF
  obtain ⟨T, hT⟩ : ∃ T : Sd.S, T = { st with ms := x % 16777216 } := ⟨_, rfl⟩
  have HTe := Lib.hid hT
  have HO : Hid (Sd.opn st x = if (x - st.a) % 16777216 ≤ 8388608 ∧ (st.ms - st.a) % 16777216 ≤ (x - st.a) % 16777216 then T else st) := by rw [hT]; rfl
  clear hT
  obtain ⟨a, ha⟩ : ∃ a, a = st.a := ⟨_, rfl⟩
  obtain ⟨ms, hms⟩ : ∃ m, m = st.ms := ⟨_, rfl⟩
  rw [← ha] at c1 HO
  rw [← hms] at c2 HO
  clear ha hms
  go_enter Try.func7, Try.ntmps7
  go_wp2_with fail
  refine (to_any a x w).mono ?_
  rintro e w1 ⟨rfl, rfl⟩
  generalize hd : (x - a) % 16777216 = d at *
  simp only
  by_cases h8 : d ≤ 8388608
  · go_upto_region 1 with (fail)
    go_quiet ((go_at_call 20; refine Calls.quiet_of_same (to_any _ _ _)))
    have I2 := Lib.hid (HI.out.drewN nq)
    have T2 : Hid (Touch F w1 (w1.drewN nq)) := (Touch.refl _ _).drewN _
    clear c1 c2 HI
    generalize w1.drewN nq = w2 at *
    generalize (ms - a) % 16777216 = f at *
    by_cases hf : f ≤ d
    · have HE : Hid (Sd.opn st x = { st with ms := x % 16777216 }) := by unfold Hid; rw [HO.out, if_pos ⟨h8, hf⟩, HTe.out]
      have fz := I2.out.blk.frozen 2
      have c2 : w2.cell? ⟨p, 2, none⟩ = some (.int .u32 st.ms) := I2.out.blk.cell 2
      have HX : Hid (SendAt (w2.setCell ⟨p, 2, none⟩ (.int .u32 (x % 16777216))) p F (Sd.opn st x)) := by
        unfold Hid
        rw [HE.out]
        exact SendAt.mk' (I2.out.scalar 2 _ rfl rfl rfl rfl rfl) HF.out
      have HT : Hid (Touch F w1 (w2.setCell ⟨p, 2, none⟩ (.int .u32 (x % 16777216)))) := T2.out.st HF.out.p
      clear HO HE I2 T2
      go_wp2_with fail
      refine (low_any x w2).mono ?_
      rintro e w3 ⟨rfl, rfl⟩
      simp only
      go_wp2
      go_end0
      exact ⟨rfl, HX.out, HT.out⟩
    · have HE : Hid (Sd.opn st x = st) := by unfold Hid; rw [HO.out, if_neg (fun hh => hf hh.2)]
      go_wp2
      go_end0
      exact ⟨rfl, by rw [HE.out]; exact SendAt.mk' I2.out HF.out, T2.out⟩
  · have HE : Hid (Sd.opn st x = st) := by unfold Hid; rw [HO.out, if_neg (fun hh => h8 hh.1)]
    go_upto_region 1 with (fail)
    go_quiet (fail)
    go_wp2
    go_end0
    exact ⟨rfl, by rw [HE.out]; exact SendAt.mk' (HI.out.drewN _) HF.out, (Touch.refl _ _).drewN _⟩

theorem slen_q {g : Nat} {b : Option Nat} {most : Nat} {q : List ByteArray} {w : World} (h : RingStr w g b most q) {m : Nat} (hm : q.length = m) (n : Nat) :
    Calls Try.prog 38 #[.pointer (some ⟨g, 0, none⟩)] (w.drewN n) fun e w' => e = .returned (.int .i64 m) ∧ w' = w.drewN n := by
  rw [← hm]
  exact ringStr_len g b most q _ (h.same rfl)

set_option maxRecDepth 4000 in
theorem sidle_any (p : Nat) (F : Nat → Prop) (st : Sd.S) (w : World) (h : SendAt w p F st) :
    Calls Try.prog 14 #[.pointer (some ⟨p, 0, none⟩)] w fun e w' => e = .returned (.bool (decide (st.q.length = 0) && decide (st.m.length = 0))) ∧ ∃ n, w' = w.drewN n := by
  obtain ⟨g, b, k, A, c, h1, hF⟩ := h.open_
  have c7 : w.cell? ⟨p, 7, none⟩ = some (.pointer (some ⟨g, 0, none⟩)) := h1.blk.cell 7
  have c8 : w.cell? ⟨p, 8, none⟩ = some (.map (some k)) := h1.blk.cell 8
  have hbq := h1.ring.len_le
  obtain ⟨q, hq⟩ : ∃ q, st.q.length = q := ⟨_, rfl⟩
  have HR := Lib.hid (ringStr_len g b st.most st.q w h1.ring)
  have hln : (Builtin.len_ #[62] 3 #[.map (some k)]).run Try.prog w = .ok (.int .i64 (((Sd.mapV st.m).length : Nat) : Int)) w := len_map Try.underlying62 h1.map
  rw [Sd.mapV_len] at hln
  rw [hq] at hbq HR ⊢
  clear h h1 hF hq
  generalize st.m.length = m at *
  go_enter Try.func14, Try.ntmps14
  by_cases h0 : q = 0
  · have h0i : ((q : Int) == 0) = true := by simp [h0]
    rw [decide_eq_true h0]
    clear h0
    go_wp2_with fail
    refine HR.out.mono ?_
    rintro e w1 ⟨rfl, rfl⟩
    simp only
    go_wp2
    go_ret
    exact ⟨by by_cases hm : m = 0 <;> simp [hm], 0, rfl⟩
  · have h0i : ((q : Int) == 0) = false := by simp [h0]
    rw [decide_eq_false h0]
    go_wp2_with fail
    refine HR.out.mono ?_
    rintro e w1 ⟨rfl, rfl⟩
    simp only
    go_wp2
    go_ret
    exact ⟨rfl, 0, rfl⟩
end Go.Proofs.Ytngljhpplmbglaa

namespace Go.Proofs.Ytngljhpplmbglaa
open Go.RowKit

/-- Four results at once. -/
theorem results_tmp4 {fn : Func} {t u v x : Tmp} (h : fn.results = #[.tmp t, .tmp u, .tmp v, .tmp x]) (tmps : Array Value) (P : Program) (w : World) :
    (results fn tmps).run P w = .ok (.tuple #[tmps.getD t undef, tmps.getD u undef, tmps.getD v undef, tmps.getD x undef]) w := by
  simp [results, h]

/-- A message is kept: the map's entry, the count. -/
theorem SendIn.outed {w w1 : World} {p g : Nat} {b : Option Nat} {k : Nat} {A : Option Addr} {c : Nat} {st : Sd.S} (h : SendIn w p g b k A c st) {n : Int} {v : ByteArray} (hm : MapAt numK w1 k (mset (Sd.mapV st.m) n (Sd.itemV (v, st.ps)))) (ht : Touch (· = k) w w1) :
    w1.cell? ⟨p, 5, none⟩ = some (.int .i64 st.units) ∧ w1.frozen? ⟨p, 5, none⟩ = false ∧ SendIn (w1.setCell ⟨p, 5, none⟩ (.int .i64 (st.units + 1))) p g b k A c (Sd.out st n v) := by
  rw [Sd.mapV_set] at hm
  have h1 : SendIn w1 p g b k A c { st with m := mset st.m n (v, st.ps) } :=
    ⟨ht.blk h.blk (fun e => h.ne_k e.symm), h.ring.touch ht (fun e => h.k_ne_g e.symm) (fun z e e2 => h.k_ne_b (by rw [e, e2])), hm, h.ag.touch ht (fun ad e => h.A_ne_k ad e)⟩
  exact ⟨h1.blk.cell 5, h1.blk.frozen 5, h1.scalar 5 _ rfl rfl rfl rfl rfl⟩

set_option maxRecDepth 4000 in
theorem sout_any (p : Nat) (F : Nat → Prop) (st : Sd.S) (n : Int) (v : ByteArray) (w : World) (h : SendAt w p F st) (hu : 0 ≤ st.units ∧ st.units < 4611686018427387904) :
    Calls Try.prog 27 #[.pointer (some ⟨p, 0, none⟩), .int .u32 n, .string v] w fun e w' => e = .returned (.tuple #[]) ∧ SendAt w' p F (Sd.out st n v) ∧ Touch F w w' := by
  obtain ⟨g, b, k, A, c, h1, hF⟩ := h.open_
  have c3 : w.cell? ⟨p, 3, none⟩ = some (.int .u32 st.ps) := h1.blk.cell 3
  have c8 : w.cell? ⟨p, 8, none⟩ = some (.map (some k)) := h1.blk.cell 8
  have HM := Lib.hid h1.map
  have HI := Lib.hid h1
  have HF := Lib.hid hF
  obtain ⟨hu0, hu1⟩ := hu
  clear h h1 hF
  go_enter Try.func27, Try.ntmps27
  go_wp2_with fail
  go_still_tail 11, (by kernel_rfl)
  go_wp2_with (refine wpList_storeM rfl rfl (k := n) rfl rfl (HM.out.drew) Try.underlying62 ?_; intro w1 hm ht; have T1 : Hid (Touch (· = k) w w1) := (Touch.refl _ w).drew.trans ht (fun _ _ h => h); obtain ⟨c5, f5, i5⟩ := HI.out.outed hm T1.out; have HX : Hid (SendAt (w1.setCell ⟨p, 5, none⟩ (.int .i64 (st.units + 1))) p F (Sd.out st n v)) := SendAt.mk' i5 HF.out; have HT : Hid (Touch F w (w1.setCell ⟨p, 5, none⟩ (.int .i64 (st.units + 1)))) := (T1.out.mono fun z _ e => e ▸ HF.out.k).st HF.out.p; clear hm ht T1 i5 HI HF HM c3 c8; generalize st.units = u at *)
  go_end0
  exact ⟨rfl, HX.out, HT.out⟩

/-- Nothing goes again, and there is no credit: nothing goes out. -/
theorem snext_stop (p : Nat) (F : Nat → Prop) (st : Sd.S) (w : World) (h : SendAt w p F st) (ha : st.again = []) (hs : st.s = st.ms) :
    Calls Try.prog 10 #[.pointer (some ⟨p, 0, none⟩)] w fun e w' => e = .returned (.tuple #[.int .u32 0, .string ByteArray.empty, .bool false, .bool false]) ∧ SendAt w' p F st ∧ Touch F w w' := by
  obtain ⟨g, b, k, A, c, h1, hF⟩ := h.open_
  have c0 : w.cell? ⟨p, 0, none⟩ = some (.int .u32 st.s) := h1.blk.cell 0
  have c2 : w.cell? ⟨p, 2, none⟩ = some (.int .u32 st.ms) := h1.blk.cell 2
  have c9 : w.cell? ⟨p, 9, none⟩ = some (.slice A st.again.length c) := h1.blk.cell 9
  rw [ha, List.length_nil] at c9
  rw [← hs] at c2
  have HI := Lib.hid h1
  have HF := Lib.hid hF
  clear h h1 hF ha hs
  generalize st.s = s at *
  go_enter Try.func10, Try.ntmps10
  go_wp2
  go_quiet (fail)
  go_wp2
  exact bodyPost_ret (results_tmp4 rfl _ _ _) rfl ⟨rfl, SendAt.mk' (HI.out.drewN _) HF.out, (Touch.refl _ _).drewN _⟩

set_option maxHeartbeats 1000000 in
/-- Nothing goes again, there is credit, and something waits: it goes out. -/
theorem snext_new (p : Nat) (F : Nat → Prop) (st : Sd.S) (v : ByteArray) (r : List ByteArray) (w : World) (h : SendAt w p F st) (ha : st.again = []) (hs : st.s ≠ st.ms) (hq : st.q = v :: r) (hu : 0 ≤ st.units ∧ st.units < 4611686018427387904) :
    Calls Try.prog 10 #[.pointer (some ⟨p, 0, none⟩)] w fun e w' => e = .returned (.tuple #[.int .u32 st.s, .string v, .bool true, .bool true]) ∧ SendAt w' p F (Sd.new1 st v r) ∧ Touch F w w' := by
  obtain ⟨g, b, k, A, c, h1, hF⟩ := h.open_
  have c0 : w.cell? ⟨p, 0, none⟩ = some (.int .u32 st.s) := h1.blk.cell 0
  have c2 : w.cell? ⟨p, 2, none⟩ = some (.int .u32 st.ms) := h1.blk.cell 2
  have c7 : w.cell? ⟨p, 7, none⟩ = some (.pointer (some ⟨g, 0, none⟩)) := h1.blk.cell 7
  have c9 : w.cell? ⟨p, 9, none⟩ = some (.slice A st.again.length c) := h1.blk.cell 9
  rw [ha, List.length_nil] at c9
  have hb : (st.s == st.ms) = false := by simpa using hs
  have HR := Lib.hid (fun n => ringStr_take g b st.most st.q (w.drewN n) (h1.ring.same rfl))
  rw [hq] at HR
  have HI := Lib.hid h1
  have HF := Lib.hid hF
  have HU := Lib.hid hu
  clear h h1 hF ha hs hq hu
  obtain ⟨s, hse⟩ : ∃ s, s = st.s := ⟨_, rfl⟩
  have HSE := Lib.hid hse
  rw [← hse] at c0 hb ⊢
  clear hse
  generalize st.ms = ms at *
  go_enter Try.func10, Try.ntmps10
  go_wp2
  go_quiet (fail)
  go_wp2_with fail
  refine (HR.out _).mono ?_
  rintro e w1 ⟨rfl, hr, ht⟩
  have I1 : Hid (SendIn w1 p g b k A c { st with q := r }) := (HI.out.drewN _).ringed hr ht
  have T1 : Hid (Touch F w w1) := ((Touch.refl _ _).drewN _).trans ht (fun x _ hx => HF.out.foot x hx)
  have d0 : w1.cell? ⟨p, 0, none⟩ = some (.int .u32 s) := by rw [HSE.out]; exact I1.out.blk.cell 0
  clear hr ht HR HI c0 c2 c7 c9
  simp only [List.length_cons, Nat.add_one_ne_zero, if_false, List.getD_cons_zero]
  go_upto_region 13 with (fail)
  go_wp2_with fail
  refine (sout_any p F { st with q := r } s v w1 (SendAt.mk' I1.out HF.out) HU.out).mono ?_
  rintro e w2 ⟨rfl, h2, t2⟩
  obtain ⟨g', b', k', A', c', i2, f2⟩ := h2.open_
  have e0 : w2.cell? ⟨p, 0, none⟩ = some (.int .u32 st.s) := i2.blk.cell 0
  have f0 := i2.blk.frozen 0
  have HX : Hid (SendAt (w2.setCell ⟨p, 0, none⟩ (.int .u32 ((s + 1) % 16777216))) p F (Sd.new1 st v r)) := by
    rw [HSE.out] at i2 ⊢
    exact SendAt.mk' (i2.scalar (st' := Sd.new1 st v r) 0 _ rfl rfl rfl rfl rfl) f2
  have HT : Hid (Touch F w (w2.setCell ⟨p, 0, none⟩ (.int .u32 ((s + 1) % 16777216)))) := (T1.out.trans t2 (fun _ _ h => h)).st HF.out.p
  clear h2 i2 f2 t2 I1 T1 d0 HU HF
  generalize st.s = s' at *
  simp only
  go_wp2_with fail
  refine (sadd_any s 1 w2).mono ?_
  rintro e w3 ⟨rfl, rfl⟩
  simp only
  go_wp2
  exact bodyPost_ret (results_tmp4 rfl _ _ _) rfl ⟨rfl, HX.out, HT.out⟩
end Go.Proofs.Ytngljhpplmbglaa

namespace Go.Proofs.Ytngljhpplmbglaa
open Go.RowKit

theorem snew1_any (x : Int) (w : World) :
    Calls Try.prog 23 #[.int .i64 x] w fun e w' => e = .returned (.int .i64 (max 1 (min x 256))) ∧ w' = w := by
  obtain ⟨m, hm⟩ : ∃ m, (if 256 < x then (256 : Int) else x) = m := ⟨_, rfl⟩
  obtain ⟨m', hm'⟩ : ∃ m', (if 1 < m then m else 1) = m' := ⟨_, rfl⟩
  have hx : Hid (max 1 (min x 256) = m') := by
    unfold Hid
    rw [← hm', ← hm]; (split <;> (try split) <;> omega)
  go_enter Try.func23, Try.ntmps23
  go_wp2
  go_ret
  exact ⟨by rw [hx.out]; first | rfl | simp, rfl⟩

set_option maxHeartbeats 1000000 in
theorem snew_any (start queue polls : Int) (w : World) :
    Calls Try.prog 4 #[.int .u32 start, .int .i64 queue, .int .i64 polls] w fun e w' => ∃ p, e = .returned (.pointer (some ⟨p, 0, none⟩)) ∧ SendAt w' p (fun x => w.heap.size ≤ x) (Sd.new start queue polls) ∧ Fresh w w' ∧ w.heap.size ≤ p := by
  obtain ⟨P, hP⟩ : ∃ P : Int, max 1 (min polls 256) = P := ⟨_, rfl⟩
  obtain ⟨Q, hQ⟩ : ∃ Q : Int, max 1 (min queue 256) = Q := ⟨_, rfl⟩
  have HP := Lib.hid hP
  have HQ := Lib.hid hQ
  have HR := Lib.hid (fun w => ringStr_new Q w)
  have hQm : (max 0 (min Q 4096)).toNat = Q.toNat := by omega
  rw [hQm] at HR
  clear hP hQ hQm
  go_enter Try.func4, Try.ntmps4
  go_wp2_with fail
  refine (low_any start w).mono ?_
  rintro e w1 ⟨rfl, rfl⟩
  generalize hs : start % 16777216 = s at *
  simp only
  go_wp2_with fail
  refine (snew1_any polls _).mono ?_
  rintro e w2 ⟨rfl, rfl⟩
  rw [HP.out]
  simp only
  go_wp2_with fail
  refine (snew1_any queue _).mono ?_
  rintro e w3 ⟨rfl, rfl⟩
  rw [HQ.out]
  simp only
  go_wp2_with fail
  refine (HR.out _).mono ?_
  rintro e w4 ⟨rfl, hr, hf⟩
  simp only
  have hmm := @run_makeMap Try.prog
  have F4 : Hid (Fresh w3 w4) := hf
  have R4 := Lib.hid hr
  have hgw := hr.lt
  obtain ⟨g, hg⟩ : ∃ g, g = w3.heap.size := ⟨_, rfl⟩
  have hge : w3.heap.size ≤ g := by omega
  rw [← hg] at R4 hgw ⊢
  clear hg
  have HX : Hid (SendAt ((w4.alloc (.map #[] 0)).alloc (.cells #[.int .u32 s, .int .u32 s, .int .u32 s, .int .u32 s, .int .u32 s, .int .i64 0, .int .i64 P, .pointer (some ⟨g, 0, none⟩), .map (some w4.heap.size), .slice none 0 0] 64)) (w4.heap.size + 1) (fun x => w3.heap.size ≤ x) (Sd.new start queue polls)) := by
    have h1 := hf.size
    have hb := Blk.new (w4.alloc (.map #[] 0)) 64 [.int .u32 s, .int .u32 s, .int .u32 s, .int .u32 s, .int .u32 s, .int .i64 0, .int .i64 P, .pointer (some ⟨g, 0, none⟩), .map (some w4.heap.size), .slice none 0 0]
    have e1 : (w4.alloc (.map #[] 0)).heap.size = w4.heap.size + 1 := by simp
    rw [e1] at hb
    refine SendAt.mk' (g := g) (b := none) (k := w4.heap.size) (A := none) (c := 0) ⟨?_, ?_, ?_, Sl.nil _ _⟩ ⟨by omega, ?_, (fun _ e => by cases e), by omega, (fun _ e => by cases e)⟩
    · unfold sendCells Sd.new
      rw [hs, HP.out]
      exact hb
    · unfold Sd.new
      simp only
      rw [HQ.out]
      exact (R4.out.touch ((Touch.refl (fun _ => False) w4).alloc _) (fun h => h) (fun _ _ h => h)).touch ((Touch.refl (fun _ => False) _).alloc _) (fun h => h) (fun _ _ h => h)
    · exact (MapAt.made numK w4).alloc _
    · exact hge
  have FX : Hid (Fresh w3 ((w4.alloc (.map #[] 0)).alloc (.cells #[.int .u32 s, .int .u32 s, .int .u32 s, .int .u32 s, .int .u32 s, .int .i64 0, .int .i64 P, .pointer (some ⟨g, 0, none⟩), .map (some w4.heap.size), .slice none 0 0] 64))) := (F4.out.alloc _).alloc _
  have hle := F4.out.size
  clear hr hf HR R4 hge hs
  go_wp2
  go_ret
  exact ⟨w4.heap.size + 1, rfl, HX.out, FX.out, by omega⟩

set_option maxHeartbeats 1000000 in
theorem cloneNum_any (A : Option Addr) (c : Nat) (l : List Int) (w : World) (h : Rd numE w A c l) (hl : l.length ≤ 16777216) :
    Calls Try.prog 55 #[.slice A l.length c] w fun e w' => ∃ A' c', e = .returned (.slice A' l.length c') ∧ Mine numE w w' A' c' l := by
  cases A with
  | none =>
    have h0 := h.2.2.1 rfl
    subst h0
    have : l = [] := List.eq_nil_of_length_eq_zero (by have := h.1; omega)
    subst this
    have hz := fun w => Lib.run_eql_slice_nil (P := Try.prog) w 42 29 none 0 0 0 0 Try.underlying42
    go_enter Try.func55, Try.ntmps55
    go_wp2
    go_ret
    exact ⟨none, 0, rfl, Mine.nil _ _⟩
  | some ad =>
    have H := Lib.hid h
    clear h
    have hz := fun w => Lib.run_eql_slice_nil (P := Try.prog) w 42 29 (some ad) l.length c 0 0 Try.underlying42
    have M0 := Lib.hid (Mine.lit numE w #[] [] rfl 0 rfl (by decide))
    go_enter Try.func55, Try.ntmps55
    go_wp2_with (at_builtin; refine app_num rfl rfl (l := []) (l2 := l) rfl rfl (Sl.lit numE w _ rfl _ _ rfl _ rfl (by decide)) (H.out.alloc _) (by simp; omega) ?_; intro A2 c2 L2 w2 hL2 hs2 ht2 hA2)
    have e : L2 = l := hL2.out
    subst e
    have M2 := Lib.hid (M0.out.app hs2 ht2 hA2)
    clear hs2 ht2 hA2 hL2
    go_ret
    exact ⟨A2, c2, rfl, M2.out⟩

/-- What Vars tells. -/
def Sd.varsV (st : Sd.S) (A : Option Addr) (c : Nat) : Value :=
  .agg #[.int .u32 st.s, .int .u32 st.a, .int .u32 st.ms, .int .u32 st.ps, .int .u32 st.pa, .int .i64 st.units, .int .i64 (st.q.length : Int), .int .i64 (st.m.length : Int), .slice A st.again.length c]

end Go.Proofs.Ytngljhpplmbglaa

namespace Go.Proofs.Ytngljhpplmbglaa

theorem mset_len_new {κ β : Type} [DecidableEq κ] {m : List (κ × β)} {k : κ} (h : k ∉ m.map (·.1)) (v : β) : (mset m k v).length = m.length + 1 ∧ mset m k v = m ++ [(k, v)] := by
  unfold mset
  rw [if_neg h]
  exact ⟨by simp, rfl⟩

namespace Sd
/-- k messages wait, none went out. -/
def full (start : Int) (c : ByteArray) (k : Nat) : S := { new start 256 256 with q := List.replicate k c }
theorem full_put (start : Int) (c : ByteArray) (k : Nat) (hk : k < 256) : (full start c k).q.length < (full start c k).most ∧ put (full start c k) c = full start c (k + 1) := by
  have h1 : (full start c k).q.length = k := by simp [full]
  have h2 : (full start c k).most = 256 := by show (max 1 (min (256 : Int) 256)).toNat = 256; decide
  refine ⟨by omega, ?_⟩
  unfold put
  rw [if_pos (by omega)]
  unfold full
  simp only [List.replicate_succ']

/-- As many as next went out, with credit for msv; all that wait are alike. -/
structure Cr (start : Int) (c : ByteArray) (next msv : Nat) (st : S) : Prop where
  a : st.a = start % 16777216
  s : st.s = (start + next) % 16777216
  ms : st.ms = (start + msv) % 16777216
  units : st.units = next
  q : st.q = List.replicate (256 - next) c
  again : st.again = []
  len : st.m.length = next
  keys : ∀ p ∈ st.m, ∃ j : Nat, j < next ∧ p.1 = (start + j) % 16777216
  le : next ≤ msv
  le2 : msv ≤ 255

variable {start : Int} {c : ByteArray} {next msv : Nat} {st : S}
theorem Cr.full (start : Int) (c : ByteArray) : Cr start c 0 0 (full (start % 16777216) c 256) :=
  ⟨by show start % 16777216 % 16777216 = _; omega, by show start % 16777216 % 16777216 = _; omega, by show start % 16777216 % 16777216 = _; omega, rfl, rfl, rfl, rfl, (fun p h => by cases h), by omega, by omega⟩
theorem Cr.opn (h : Cr start c next msv st) (x : Nat) (hx : x ≤ 255) : Cr start c next (max msv x) (opn st ((start % 16777216 + x) % 16777216)) := by
  have h1 : ((start % 16777216 + (x : Int)) % 16777216 - st.a) % 16777216 = x := by rw [h.a]; omega
  have h2 : (st.ms - st.a) % 16777216 = msv := by rw [h.a, h.ms]; have := h.le2; omega
  unfold Sd.opn
  rw [h1, h2]
  by_cases hc : msv ≤ x
  · rw [if_pos ⟨by omega, by omega⟩]
    exact ⟨h.a, h.s, by show _ % _ = _; rw [show max msv x = x by omega]; omega, h.units, h.q, h.again, h.len, h.keys, by have := h.le; omega, by omega⟩
  · rw [if_neg (fun hh => hc (by omega)), show max msv x = msv by omega]
    exact h
theorem Cr.stop (h : Cr start c next msv st) (he : next = msv) : st.s = st.ms := by rw [h.s, h.ms, he]
theorem Cr.goes (h : Cr start c next msv st) (hl : next < msv) : st.s ≠ st.ms := by
  rw [h.s, h.ms]
  have := h.le2
  omega
theorem Cr.q_cons (h : Cr start c next msv st) : st.q = c :: List.replicate (255 - next) c := by
  have h1 := h.le
  have h2 := h.le2
  rw [h.q, show 256 - next = (255 - next) + 1 by omega, List.replicate_succ]
theorem Cr.goOn (h : Cr start c next msv st) (hl : next < msv) : Cr start c (next + 1) msv (new1 st c (List.replicate (255 - next) c)) := by
  have h2 := h.le2
  have hk : st.s ∉ st.m.map (·.1) := fun hm => by
    obtain ⟨p, hp, e⟩ := List.mem_map.1 hm
    obtain ⟨j, hj, e2⟩ := h.keys p hp
    rw [e2, h.s] at e
    omega
  obtain ⟨l1, l2⟩ := mset_len_new hk (c, st.ps)
  refine ⟨h.a, ?_, h.ms, ?_, ?_, h.again, ?_, ?_, by omega, h.le2⟩
  · show (st.s + 1) % 16777216 = _
    rw [h.s]
    omega
  · show st.units + 1 = _
    rw [h.units]
    omega
  · show List.replicate (255 - next) c = _
    rw [show 256 - (next + 1) = 255 - next by omega]
  · show (mset st.m st.s (c, st.ps)).length = _
    rw [l1, h.len]
  · show ∀ p ∈ mset st.m st.s (c, st.ps), _
    rw [l2]
    intro p hp
    rcases List.mem_append.1 hp with hp | hp
    · obtain ⟨j, hj, e⟩ := h.keys p hp
      exact ⟨j, by omega, e⟩
    · rw [List.mem_singleton.1 hp]
      exact ⟨next, by omega, h.s⟩
end Sd
end Go.Proofs.Ytngljhpplmbglaa

namespace Go.Proofs.Ytngljhpplmbglaa
open Go.RowKit

theorem Grown.low {B w : World} (h : Fresh B w) (x : Nat) (hx : Grown (fun x => B.heap.size ≤ x) w x) : B.heap.size ≤ x := by
  rcases hx with e | e
  · exact e
  · exact Nat.le_trans h.size e
theorem Touch.back {B w w' : World} {F : Nat → Prop} (h : Fresh B w) (ht : Touch F w w') (hF : ∀ x, F x → B.heap.size ≤ x) : Fresh B w' := h.trans ht fun k hk hf => by
  have := hF k hf
  omega

/-- A sender of the law's own: in memory that was not there in B. -/
structure OwnSend (B w : World) (p : Nat) (st : Sd.S) : Prop where
  at_ : SendAt w p (fun x => B.heap.size ≤ x) st
  fresh : Fresh B w
section
variable {B w w' : World} {p : Nat} {st st' : Sd.S}
theorem OwnSend.old (h : OwnSend B w p st) (ht : Fresh w w') : OwnSend B w' p st := ⟨h.at_.old ht, h.fresh.trans ht (fun _ _ h => h)⟩
theorem OwnSend.eq (h : OwnSend B w p st) (e : st = st') : OwnSend B w p st' := e ▸ h
theorem oput (v : ByteArray) (h : OwnSend B w p st) {z : Int} (hz : (if st.q.length < st.most then (0 : Int) else 7) = z) (he : Sd.put st v = st') :
    Calls Try.prog 9 #[.pointer (some ⟨p, 0, none⟩), .string v] w fun e w' => e = .returned (.int .i64 z) ∧ OwnSend B w' p st' := by
  subst hz he
  refine (sput_any p _ st v w h.at_).mono ?_
  rintro e w' ⟨rfl, h1, h2⟩
  exact ⟨rfl, h1.mono (fun x hx => Grown.low h.fresh x hx), Touch.back h.fresh h2 (fun _ h => h)⟩
theorem oopn (x : Int) (h : OwnSend B w p st) (he : Sd.opn st x = st') :
    Calls Try.prog 7 #[.pointer (some ⟨p, 0, none⟩), .int .u32 x] w fun e w' => e = .returned (.tuple #[]) ∧ OwnSend B w' p st' := by
  subst he
  refine (sopn_any p _ st x w h.at_).mono ?_
  rintro e w' ⟨rfl, h1, h2⟩
  exact ⟨rfl, h1, Touch.back h.fresh h2 (fun _ h => h)⟩
theorem onew (start queue polls : Int) (h : Fresh B w) (he : Sd.new start queue polls = st) :
    Calls Try.prog 4 #[.int .u32 start, .int .i64 queue, .int .i64 polls] w fun e w' => ∃ p, e = .returned (.pointer (some ⟨p, 0, none⟩)) ∧ OwnSend B w' p st := by
  subst he
  refine (snew_any start queue polls w).mono ?_
  rintro e w' ⟨p, rfl, h1, h2, h3⟩
  exact ⟨p, rfl, h1.mono (fun x hx => Nat.le_trans h.size hx), h.trans h2 (fun _ _ h => h)⟩
theorem onext_stop (h : OwnSend B w p st) (ha : st.again = []) (hs : st.s = st.ms) :
    Calls Try.prog 10 #[.pointer (some ⟨p, 0, none⟩)] w fun e w' => e = .returned (.tuple #[.int .u32 0, .string ByteArray.empty, .bool false, .bool false]) ∧ OwnSend B w' p st := by
  refine (snext_stop p _ st w h.at_ ha hs).mono ?_
  rintro e w' ⟨rfl, h1, h2⟩
  exact ⟨rfl, h1, Touch.back h.fresh h2 (fun _ h => h)⟩
theorem onext_new {v : ByteArray} {r : List ByteArray} (h : OwnSend B w p st) (ha : st.again = []) (hs : st.s ≠ st.ms) (hq : st.q = v :: r) (hu : 0 ≤ st.units ∧ st.units < 4611686018427387904) {s : Int} (e1 : st.s = s) (e2 : Sd.new1 st v r = st') :
    Calls Try.prog 10 #[.pointer (some ⟨p, 0, none⟩)] w fun e w' => e = .returned (.tuple #[.int .u32 s, .string v, .bool true, .bool true]) ∧ OwnSend B w' p st' := by
  subst e1 e2
  refine (snext_new p _ st v r w h.at_ ha hs hq hu).mono ?_
  rintro e w' ⟨rfl, h1, h2⟩
  exact ⟨rfl, h1, Touch.back h.fresh h2 (fun _ h => h)⟩
theorem oidle (h : OwnSend B w p st) {b : Bool} (hb : (decide (st.q.length = 0) && decide (st.m.length = 0)) = b) :
    Calls Try.prog 14 #[.pointer (some ⟨p, 0, none⟩)] w fun e w' => e = .returned (.bool b) ∧ OwnSend B w' p st := by
  subst hb
  refine (sidle_any p _ st w h.at_).mono ?_
  rintro e w' ⟨rfl, n, rfl⟩
  exact ⟨rfl, h.old ((Touch.refl _ _).drewN n)⟩
end

theorem Sd.varsV_eq (st : Sd.S) (A : Option Addr) (c : Nat) : Sd.varsV st A c = .agg #[.int .u32 st.s, .int .u32 st.a, .int .u32 st.ms, .int .u32 st.ps, .int .u32 st.pa, .int .i64 st.units, .int .i64 (st.q.length : Int), .int .i64 (st.m.length : Int), .slice A st.again.length c] := rfl
end Go.Proofs.Ytngljhpplmbglaa
