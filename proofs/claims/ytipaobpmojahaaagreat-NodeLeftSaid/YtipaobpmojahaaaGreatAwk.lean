/-
  An end that a law made: what each call makes of it; what the law was given stays as it was · polliwoglaw16.awake: a fixed end asks, sends, and is quiet. No conditions.
-/
import Derived.Test.YtipaobpmojahaaaGreatEnRq
import Derived.Test.YtipaobpmojahaaaGreatOpY
import Derived.Test.YtipaobpmojahaaaGreatEnR
import Derived.Test.YtipaobpmojahaaaGreatEvD
import Derived.BigRegion
import Derived.Test.YtipaobpmojahaaaGreatEnVr
import Derived.Test.YtipaobpmojahaaaGreatOpW
set_option maxHeartbeats 4000000
namespace Go.Proofs.YtipaobpmojahaaaGreat
open Go.RowKit
set_option maxRecDepth 20000

def Held (K : Nat -> Prop) (w0 W : World) (n : Nat) (x : En.X) : Prop := ∃ D, EndAt 0 D W n x ∧ (∀ b, b < w0.heap.size -> 8 <= D b) ∧ Fresh w0 W ∧ ∀ b, K b -> 8 <= D b ∧ w0.heap.size <= b ∧ b < W.heap.size
def NK : Nat -> Prop := fun _ => False
def KA (b : Nat) (A : Option Addr) : Nat -> Prop := fun k => k = b ∨ A.map Addr.block = some k
section
variable {K : Nat -> Prop} {w0 W W' : World} {n : Nat} {x y : En.X}
theorem Held.fresh (h : Held K w0 W n x) : Fresh w0 W := by obtain ⟨D, -, -, h, -⟩ := h; exact h
theorem Held.to {D D' : Nat -> Nat} (he : EndTo 0 D D' W W' n y) (hD : ∀ b, b < w0.heap.size -> 8 <= D b) (hf : Fresh w0 W) (hK : ∀ b, K b -> 8 <= D b ∧ w0.heap.size <= b ∧ b < W.heap.size) : Held K w0 W' n y ∧ Touch (fun b => ¬ K b) W W' := by
 have hs := hf.size
 have hs2 := he.touch.size
 refine ⟨⟨D', he.at_, fun b hb => ?_, hf.trans he.touch (fun b hb e => ?_), fun b hb => ?_⟩, he.touch.mono fun b hb e e2 => ?_⟩
 ·rw [he.lab.1 b (by omega)]; exact hD b hb
 ·unfold All at e
  have := hD b hb
  omega
 ·obtain ⟨h1, h2, h3⟩ := hK b hb
  rw [he.lab.1 b h3]
  exact ⟨h1, h2, by omega⟩
 ·unfold All at e
  have := (hK b e2).1
  omega
theorem Held.old (h : Held K w0 W n x) (hf : Fresh W W') : Held K w0 W' n x := by
 obtain ⟨D, h1, h2, h3, h4⟩ := h
 have := hf.size
 exact ⟨D, h1.old hf (fun _ _ => rfl), h2, h3.trans hf (fun _ _ e => e), fun b hb => ⟨(h4 b hb).1, (h4 b hb).2.1, by have := (h4 b hb).2.2; omega⟩⟩
theorem Held.mono {K' : Nat -> Prop} (h : Held K w0 W n x) (hk : ∀ b, K' b -> K b) : Held K' w0 W n x := by
 obtain ⟨D, h1, h2, h3, h4⟩ := h
 exact ⟨D, h1, h2, h3, fun b hb => h4 b (hk b hb)⟩
theorem Held.put {K' T : Nat -> Prop} (h : Held K w0 W n x) (ht : Touch T W W') (hT : ∀ b, T b -> b < W.heap.size -> K b) (hk : ∀ b, K' b -> K b ∨ W.heap.size <= b ∧ b < W'.heap.size) : Held K' w0 W' n x := by
 obtain ⟨D, h1, h2, h3, h4⟩ := h
 have hs := h3.size
 have hs2 := ht.size
 have ht2 : Touch (fun b => T b ∧ b < W.heap.size) W W' := ht.mono fun b hb e => ⟨e, hb⟩
 refine ⟨lab D W.heap.size 40, h1.far ht2 (fun b e => (h4 b (hT b e.1 e.2)).1) (fun b hb => lab_old hb), fun b hb => by rw [lab_old (by omega)]; exact h2 b hb, h3.trans ht2 (fun b hb e => by have := (h4 b (hT b e.1 e.2)).2.1; omega), fun b hb => ?_⟩
 rcases hk b hb with e | ⟨e1, e2⟩
 ·obtain ⟨g1, g2, g3⟩ := h4 b e
  exact ⟨by rw [lab_old g3]; exact g1, g2, by omega⟩
 ·exact ⟨by rw [lab_new e1]; omega, by omega, e2⟩
theorem Held.rebase {K : Nat -> Prop} {w0 w1 W : World} {n : Nat} {x : En.X} (h : Held NK w1 W n x) (hf : Fresh w0 w1) (hK : ∀ b, K b -> w0.heap.size <= b ∧ b < w1.heap.size) : Held K w0 W n x := by
 obtain ⟨D, h1, h2, h3, -⟩ := h
 have hs := hf.size
 have hs2 := h3.size
 exact ⟨D, h1, fun b hb => h2 b (by omega), hf.trans h3 (fun _ _ e => e), fun b hb => ⟨h2 b (hK b hb).2, (hK b hb).1, by have := (hK b hb).2; omega⟩⟩
theorem Held.app {α : Type} {E : El α} {w W W' : World} {n b8 : Nat} {x : En.X} {A A' : Option Addr} {c : Nat} {l : List α} (h : Held (KA b8 A) w W n x) (hs : Sl E W' A' c l) (ht : Touch (fun k => A.map Addr.block = some k) W W') (hb : A'.map Addr.block = A.map Addr.block ∨ A'.map Addr.block = some W.heap.size) : Held (KA b8 A') w W' n x := by
 refine h.put ht (fun b e _ => .inr e) (fun b e => ?_)
 rcases e with e | e
 ·exact .inl (.inl e)
 ·rcases hb with hb | hb
  ·exact .inl (.inr (by rw [<- hb]; exact e))
  ·refine .inr ?_
   cases A' with
   |none => cases e
   |some ad =>
    have h1 := hs.lt ad rfl
    injection e with e
    injection hb with hb
    omega
def SigPost (K : Nat -> Prop) (w0 W : World) (n : Nat) (y : En.X × List Cn.Sig) (e : Ending) (w' : World) : Prop := ∃ A c, e = .returned (.slice A y.2.length c) ∧ Held K w0 w' n y.1 ∧ Sl sigE w' A c y.2 ∧ Touch (fun b => ¬ K b) W w' ∧ ∀ ad, A = some ad -> W.heap.size <= ad.block
theorem Held.receive (h : Held K w0 W n x) {u : Cn.Pd} (hn : 0 <= u.n ∧ u.n < 16777216) (hm : 0 <= u.mr ∧ u.mr < 16777216) (hl : u.lA = none ∧ u.ln = 0 ∧ u.lc = 0) (hR : ∀ {D cn pc un sp rp A ca B cb}, EndIn 0 D W n cn pc un sp rp A ca B cb x -> UFit 0 D W u [] -> Calls Tryz.prog 13 #[.pointer (some ⟨n, 0, none⟩), pduV u] W (EndSigs 0 D W n (En.receive x u []))) : Calls Tryz.prog 13 #[.pointer (some ⟨n, 0, none⟩), pduV u] W (SigPost K w0 W n (En.receive x u [])) := by
 obtain ⟨D, ⟨_, _, _, _, _, _, _, _, _, hin⟩, h2, h3, h4⟩ := h
 refine (hR hin ⟨hn, hm, by rw [hl.1, hl.2.2]; exact Rd.nil _ _, hl.2.1, by simp, fun ad e => by rw [hl.1] at e; cases e⟩).mono ?_
 rintro e w' ⟨D', A, c, rfl, h5, h6, h7⟩
 have h8 := Held.to h5 h2 h3 h4
 exact ⟨A, c, rfl, h8.1, h6, h8.2, fun ad e => (h7 ad e).1⟩
theorem Held.request (h : Held K w0 W n x) {kd : Int} {d : ByteArray} {m : Int} (hR : ∀ {D cn pc un sp rp A ca B cb}, EndIn 0 D W n cn pc un sp rp A ca B cb x -> Calls Tryz.prog 12 #[.pointer (some ⟨n, 0, none⟩), .agg #[.int .i64 kd, .string d, .int .i64 m]] W (AskPost 0 D W n (En.request x kd d m))) : Calls Tryz.prog 12 #[.pointer (some ⟨n, 0, none⟩), .agg #[.int .i64 kd, .string d, .int .i64 m]] W fun e w' => ∃ A c, e = .returned (.tuple #[.slice A (En.request x kd d m).2.1.length c, .int .i64 (En.request x kd d m).2.2]) ∧ Held K w0 w' n (En.request x kd d m).1 ∧ Sl sigE w' A c (En.request x kd d m).2.1 ∧ Touch (fun b => ¬ K b) W w' ∧ ∀ ad, A = some ad -> W.heap.size <= ad.block := by
 obtain ⟨D, ⟨_, _, _, _, _, _, _, _, _, hin⟩, h2, h3, h4⟩ := h
 refine (hR hin).mono ?_
 rintro e w' ⟨D', A, c, rfl, h5, h6, h7⟩
 have h8 := Held.to h5 h2 h3 h4
 exact ⟨A, c, rfl, h8.1, h6, h8.2, fun ad e => (h7 ad e).1⟩
theorem Held.requestK (h : Held K w0 W n x) {kd : Int} {d : ByteArray} {m : Int} (hR : ∀ {D cn pc un sp rp A ca B cb}, EndIn 0 D W n cn pc un sp rp A ca B cb x -> Calls Tryz.prog 12 #[.pointer (some ⟨n, 0, none⟩), .agg #[.int .i64 kd, .string d, .int .i64 m]] W (AskPost 0 D W n (En.request x kd d m))) : Calls Tryz.prog 12 #[.pointer (some ⟨n, 0, none⟩), .agg #[.int .i64 kd, .string d, .int .i64 m]] W fun e w' => ∃ A c, e = .returned (.tuple #[.slice A (En.request x kd d m).2.1.length c, .int .i64 (En.request x kd d m).2.2]) ∧ Held (fun b => K b ∨ A.map Addr.block = some b) w0 w' n (En.request x kd d m).1 ∧ Sl sigE w' A c (En.request x kd d m).2.1 ∧ Touch (fun b => ¬ K b) W w' := by
 obtain ⟨D, ⟨_, _, _, _, _, _, _, _, _, hin⟩, h2, h3, h4⟩ := h
 refine (hR hin).mono ?_
 rintro e w' ⟨D', A, c, rfl, h5, h6, h7⟩
 obtain ⟨⟨D2, g1, g2, g3, g4⟩, h8⟩ := Held.to h5 h2 h3 h4
 have hs := h3.size
 have hs2 := h5.touch.size
 refine ⟨A, c, rfl, ⟨D', h5.at_, fun b hb => ?_, g3, fun b hb => ?_⟩, h6, h8⟩
 ·rw [h5.lab.1 b (by omega)]; exact h2 b hb
 ·rcases hb with hb | hb
  ·obtain ⟨q1, q2, q3⟩ := h4 b hb
   exact ⟨by rw [h5.lab.1 b q3]; exact q1, q2, by omega⟩
  ·cases A with
   |none => cases hb
   |some ad =>
    injection hb with hb
    obtain ⟨q1, q2⟩ := h7 ad rfl
    have q3 := h6.lt ad rfl
    subst hb
    exact ⟨by omega, by omega, q3⟩
theorem Held.next (h : Held K w0 W n x) {hi hi2 : Int} (hf : En.Fit x hi hi2) (hl : ∀ s r, x.ep = some (s, r) -> x.stat = false ∧ r.gaps = [] ∧ ∀ p F W, SendAt W p F (Sf.prog s) -> Calls Tryz.prog 43 #[.pointer (some ⟨p, 0, none⟩)] W (SNext W p F s)) : Calls Tryz.prog 14 #[.pointer (some ⟨n, 0, none⟩)] W fun e w' => ∃ u' : Cn.Pd, e = .returned (.tuple #[pduV u', .bool (En.next x).2.isSome]) ∧ Held K w0 w' n (En.next x).1 ∧ Touch (fun b => ¬ K b) W w' ∧ ∀ u l, (En.next x).2 = some (u, l) -> u'.kind = u.kind ∧ u'.sq = u.sq ∧ u'.n = u.n ∧ u'.data = u.data := by
 obtain ⟨D, ⟨_, _, _, _, _, _, _, _, _, hin⟩, h2, h3, h4⟩ := h
 refine (nnext_lite hin hf hl).mono ?_
 rintro e w' ⟨D', u', rfl, h5, h6⟩
 have h8 := Held.to h5 h2 h3 h4
 refine ⟨u', rfl, h8.1, h8.2, fun u l e => ?_⟩
 rcases h6 u l e with ⟨rfl, -⟩ | ⟨A, c, rfl, -⟩ <;> exact ⟨rfl, rfl, rfl, rfl⟩
theorem Held.quiet (h : Held K w0 W n x) (hl : ∀ e, x.ep = some e -> e.1.last.length = e.1.kept.length) : Calls Tryz.prog 18 #[.pointer (some ⟨n, 0, none⟩)] W fun e w' => e = .returned (.bool (En.quiet x)) ∧ Fresh W w' := by
 obtain ⟨D, ⟨_, _, _, _, _, _, _, _, _, hin⟩, h2, h3, -⟩ := h
 exact nquiet_any hin hl
theorem Held.vars (h : Held K w0 W n x) (hag : ∀ e, x.ep = some e -> e.1.again.length <= 16777216) : Calls Tryz.prog 15 #[.pointer (some ⟨n, 0, none⟩)] W fun e w' => ∃ A' c', e = .returned (.agg (En.varsC x A' c').toArray) ∧ Fresh W w' := by
 obtain ⟨D, ⟨_, _, _, _, _, _, _, _, _, hin⟩, h2, h3, -⟩ := h
 refine (nvars_any hin hag).mono ?_
 rintro e w' ⟨A', c', h1, h4, -⟩
 exact ⟨A', c', h1, h4⟩
theorem held_start (x0 x1 x2 x3 x4 x5 : Int) (A : Option Addr) (c : Nat) (L : List Int) (w0 w : World) (h : Rd intE w A c L) (hf : Fresh w0 w) :
  Calls Tryz.prog 8 #[.agg #[.int .i64 x0, .int .i64 x1, .int .i64 x2, .int .i64 x3, .int .i64 x4, .int .i64 x5, .slice A L.length c]] w fun e w' => ∃ n q, e = .returned (.pointer (some ⟨n, 0, none⟩)) ∧ Ope.CfOf (max 1 (min x0 16)) (max 1 (min x1 64)) (max 1 (min x2 256)) (max 1 (min x3 64)) (max 1 (min x4 256)) (x5 % 16777216) q ∧ Held NK w0 w' n (En.new q) ∧ Fresh w w' := by
 refine (nstart_any x0 x1 x2 x3 x4 x5 A c L w h).mono ?_
 rintro e w' ⟨n, c0, c1, c2, c3, c4, rfl, hg, hn⟩
 obtain ⟨D', l1, a1⟩ := hn.end_ 0 (fun _ => 40)
 have hs := hf.size
 exact ⟨n, _, rfl, ⟨hg, rfl, rfl, rfl, rfl, rfl, rfl⟩, ⟨D', a1, fun b hb => by rw [l1.1 b (by omega)]; show 8 <= 40; omega, hf.trans hn.fresh (fun _ _ e => e), fun _ e => e.elim⟩, hn.fresh⟩
theorem held_opened (x0 x1 x2 x3 x4 x5 : Int) (A : Option Addr) (c : Nat) (L : List Int) (w0 w : World) (h : Rd intE w A c L) (hf : Fresh w0 w) :
  Calls Tryz.prog 7 #[.agg #[.int .i64 x0, .int .i64 x1, .int .i64 x2, .int .i64 x3, .int .i64 x4, .int .i64 x5, .slice A L.length c]] w fun e w' => ∃ n q X, e = .returned (.tuple #[.pointer (some ⟨n, 0, none⟩), .agg (Rn.cells X).toArray]) ∧ Ope.CfOf (max 1 (min x0 16)) (max 1 (min x1 64)) (max 1 (min x2 256)) (max 1 (min x3 64)) (max 1 (min x4 256)) (x5 % 16777216) q ∧ (X.y2 = max 1 (min x2 256) ∧ X.y3 = max 1 (min x3 64)) ∧ Held NK w0 w' n (Ope.x3 q ((x5 % 16777216 + 31) % 16777216)) ∧ Fresh w w' := by
 refine (opened_any x0 x1 x2 x3 x4 x5 A c L w h).mono ?_
 rintro e w' ⟨n, q, X, D, rfl, hq, hx, he, hD, hf2⟩
 have hs := hf.size
 exact ⟨n, q, X, rfl, hq, hx, ⟨D, he, fun b hb => by rw [hD b (by omega)]; omega, hf.trans hf2 (fun _ _ e => e), fun _ e => e.elim⟩, hf2⟩
end
set_option maxRecDepth 20000
set_option linter.constructorNameAsVariable false

theorem awk_plain {q : Nd.C} (hs : q.start = 0) (hw : q.window = 4) : ∃ y y2 u, En.request (En.new q) 1 Cn.no 0 = (y, [], 0) ∧ En.Fit y (q.start % 16777216) (q.start % 16777216) ∧ y.ep = none ∧ En.next y = (y2, some (u, [])) ∧ (u.kind = 1 ∧ u.sq = 1 ∧ u.n = 4) ∧ En.Fit y2 (q.start % 16777216) (q.start % 16777216) ∧ En.next y2 = (y2, none) ∧ En.quiet y2 = true ∧ y2.ep = none := by
 refine ⟨_, _, _, Ope.ask1 q, ?_, rfl, rfl, ⟨rfl, rfl, ?_⟩, ?_, rfl, rfl, rfl⟩
 ·exact ⟨by show List.Nodup [(1 : Int)]; simp, fun u hu => (by rw [List.mem_singleton.1 hu]; show (1 : Int) <= 1 ∧ (1 : Int) <= 15; decide), by show q.start % 16777216 <= q.start % 16777216 ∧ _ - q.start % 16777216 <= _; omega, by show q.start % 16777216 <= q.start % 16777216 ∧ _ - q.start % 16777216 <= _; omega, fun e he => (by cases he), rfl⟩
 ·show (q.start + q.window) % 16777216 % 16777216 = 4
  rw [hs, hw]
  rfl
 ·exact ⟨List.nodup_nil, fun u hu => (by cases hu), by show q.start % 16777216 <= q.start % 16777216 ∧ _ - q.start % 16777216 <= _; omega, by show q.start % 16777216 <= q.start % 16777216 ∧ _ - q.start % 16777216 <= _; omega, fun e he => (by cases he), rfl⟩
theorem awake16 (w : World) : Calls Tryz.prog 6 #[] w fun e w' => e = .returned (.bool true) ∧ Fresh w w' := by
 have HST : Hid (Calls Tryz.prog 8 #[.agg #[.int .i64 2, .int .i64 4, .int .i64 4, .int .i64 2, .int .i64 9, .int .i64 0, .slice none 0 0]] w fun e w' => ∃ n q, e = .returned (.pointer (some ⟨n, 0, none⟩)) ∧ (q.start = 0 ∧ q.window = 4) ∧ Held NK w w' n (En.new q)) := by
  refine (held_start 2 4 4 2 9 0 none 0 [] w w (Rd.nil _ _) (Touch.refl _ _)).mono ?_
  rintro e w' ⟨n, q, rfl, hq, hh, -⟩
  exact ⟨n, q, rfl, ⟨hq.start, hq.window⟩, hh⟩
 go_enter Tryz.func6, Tryz.ntmps6
 go_wp2_with fail
 refine HST.out.mono ?_
 rintro e w1 ⟨n, q, rfl, ⟨h1, h2⟩, hh⟩
 obtain ⟨y, y2, u, e1, f1, e6, e2, ⟨u1, u2, u3⟩, f2, e3, e4, e5⟩ := awk_plain h1 h2
 have HH := lh hh
 have HRQ : Hid (Calls Tryz.prog 12 #[.pointer (some ⟨n, 0, none⟩), .agg #[.int .i64 1, .string { data := #[] }, .int .i64 0]] w1 fun e w' => ∃ A c, e = .returned (.tuple #[.slice A 0 c, .int .i64 0]) ∧ Held NK w w' n y) := by
  have := hh.request (kd := 1) (d := Cn.no) (m := 0) fun hin => nrequest_conn hin Ope.fit_new (Nat.zero_le _) 1 Cn.no 0 (Nat.zero_le _) (by decide) rfl
  rw [e1] at this
  exact this.mono fun e w' ⟨A, c, h1, h2, _⟩ => ⟨A, c, h1, h2⟩
 have HN1 : Hid (∀ W, Held NK w W n y -> Calls Tryz.prog 14 #[.pointer (some ⟨n, 0, none⟩)] W fun e w' => ∃ a b A m c d f, e = .returned (.tuple #[.agg #[.int .i64 1, .int .i64 1, .int .u32 4, .int .u32 a, .int .u32 b, .slice A m c, .bool d, .string f], .bool true]) ∧ Held NK w w' n y2) := fun W hW => by
  have := hW.next f1 (fun s r e => by rw [e6] at e; cases e)
  rw [e2] at this
  refine this.mono ?_
  rintro e w' ⟨u', rfl, h3, -, h4⟩
  obtain ⟨k1, k2, k3, -⟩ := h4 _ _ rfl
  exact ⟨u'.ps, u'.mr, u'.lA, u'.ln, u'.lc, u'.self, u'.data, by unfold pduV; rw [k1, k2, k3, u1, u2, u3]; rfl, h3⟩
 have HN2 : Hid (∀ W K, Held K w W n y2 -> Calls Tryz.prog 14 #[.pointer (some ⟨n, 0, none⟩)] W fun e w' => ∃ u' : Cn.Pd, e = .returned (.tuple #[pduV u', .bool false]) ∧ Held K w w' n y2 ∧ Touch (fun b => ¬ K b) W w') := fun W K hW => by
  have := hW.next f2 (fun s r e => by rw [e5] at e; cases e)
  rw [e3] at this
  exact this.mono fun e w' ⟨u', h3, h4, h5, _⟩ => ⟨u', h3, h4, h5⟩
 have HQT : Hid (∀ W K, Held K w W n y2 -> Calls Tryz.prog 18 #[.pointer (some ⟨n, 0, none⟩)] W fun e w' => e = .returned (.bool true) ∧ Fresh W w') := fun W K hW => by
  have := hW.quiet (fun e he => by rw [e5] at he; cases he)
  rw [e4] at this
  exact this
 clear h1 h2 hh e1 f1 e6 e2 u1 u2 u3 f2 e3 e4 e5 HST HH
 simp only
 go_wp2_with fail
 refine HRQ.out.mono ?_
 rintro e w2 ⟨A2, c2, rfl, h2⟩
 have H2 := lh h2
 clear h2 HRQ
 simp only
 go_wp2_with fail
 refine (HN1.out _ H2.out).mono ?_
 rintro e w3 ⟨a, b, A, m, c, d, f, rfl, h3⟩
 have H3 := lh h3
 clear h3 HN1 H2
 simp only
 go_upto_region 6 with (fail)
 have HF4 : Hid (Fresh w3 (w3.alloc (.cells #[.int .i64 1, .int .i64 1, .int .u32 4, .int .u32 a, .int .u32 b, .slice A m c, .bool d, .string f] 58))) := (Touch.refl _ _).alloc _
 have HB4 : Hid (Blk (w3.alloc (.cells #[.int .i64 1, .int .i64 1, .int .u32 4, .int .u32 a, .int .u32 b, .slice A m c, .bool d, .string f] 58)) w3.heap.size 58 [.int .i64 1, .int .i64 1, .int .u32 4, .int .u32 a, .int .u32 b, .slice A m c, .bool d, .string f]) := Blk.new _ _ _
 generalize (w3.alloc (.cells #[.int .i64 1, .int .i64 1, .int .u32 4, .int .u32 a, .int .u32 b, .slice A m c, .bool d, .string f] 58)) = w4 at *
 obtain ⟨b4, hb4⟩ := xq w3.heap.size
 rw [<- hb4] at HB4 ⊢
 have HBS : Hid (w3.heap.size <= b4) := Nat.le_of_eq hb4.symm
 clear hb4
 have H4 : Hid (Held (· = b4) w w4 n y2) := H3.out.put HF4.out (fun _ e => e.elim) (fun b e => .inr (by have e : b = b4 := e; subst e; exact ⟨HBS.out, HB4.out.lt⟩))
 clear H3 HF4 HBS
 go_wp2_with fail
 refine (HN2.out _ _ H4.out).mono ?_
 rintro e w5 ⟨u', rfl, h5, h6⟩
 have H5 := lh h5
 have HB5 := lh (h6.blk HB4.out (fun e => e rfl))
 clear h5 h6 HN2 H4 HB4
 unfold pduV
 simp only
 go_upto_region 7 with (fail)
 have hf6 : Fresh w5 (w5.alloc (.cells #[.int .i64 u'.kind, .int .i64 u'.sq, .int .u32 u'.n, .int .u32 u'.ps, .int .u32 u'.mr, .slice u'.lA u'.ln u'.lc, .bool u'.self, .string u'.data] 58)) := (Touch.refl _ _).alloc _
 have H6 := lh (H5.out.old hf6)
 have HB6 := lh (hf6.blk HB5.out (fun e => e))
 generalize (w5.alloc (.cells #[.int .i64 u'.kind, .int .i64 u'.sq, .int .u32 u'.n, .int .u32 u'.ps, .int .u32 u'.mr, .slice u'.lA u'.ln u'.lc, .bool u'.self, .string u'.data] 58)) = w6 at *
 clear hf6 H5 HB5
 have d0 : w6.cell? ⟨b4, 0, none⟩ = some (.int .i64 1) := HB6.out.cell 0
 have d1 : w6.cell? ⟨b4, 1, none⟩ = some (.int .i64 1) := HB6.out.cell 1
 have d2 : w6.cell? ⟨b4, 2, none⟩ = some (.int .u32 4) := HB6.out.cell 2
 go_wp2_with (go_at_call 18; (with_reducible refine (HQT.out _ _ H6.out).mono ?_); rintro e w7 ⟨rfl, f3⟩; have HF7 := lh (H6.out.fresh.trans f3 (fun _ _ e => e)); clear f3; simp only)
 go_ret
 exact ⟨rfl, HF7.out⟩
end Go.Proofs.YtipaobpmojahaaaGreat
