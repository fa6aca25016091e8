/-
  An end that a law made: what each call makes of it; what the law was given stays as it was · An end that hears nothing: how it begins, plain; how much goes out yet, by what lies in memory · polliwogtop.PolliwogAlone: the walk. No conditions.
-/
import Derived.Test.YtipaobpmojahaaaGreatEnRq
import Derived.Test.YtipaobpmojahaaaGreatAlP
import Derived.Test.YtipaobpmojahaaaGreatEnVr
import Derived.Test.YtipaobpmojahaaaGreatOpW
import Derived.Test.YtipaobpmojahaaaGreatOpP
namespace Go.Proofs.YtipaobpmojahaaaGreat
open Go.RowKit
set_option maxRecDepth 20000

/-- An end in memory; what was there ahead of the law, and the blocks of K, are none of its. -/
def Held (K : Nat → Prop) (w0 W : World) (n : Nat) (x : En.X) : Prop := ∃ D, EndAt 0 D W n x ∧ (∀ b, b < w0.heap.size → 8 ≤ D b) ∧ Fresh w0 W ∧ ∀ b, K b → 8 ≤ D b ∧ w0.heap.size ≤ b ∧ b < W.heap.size
/-- No block. -/
def NK : Nat → Prop := fun _ => False
section
variable {K : Nat → Prop} {w0 W W' : World} {n : Nat} {x y : En.X}
theorem Held.fresh (h : Held K w0 W n x) : Fresh w0 W := by obtain ⟨D, -, -, h, -⟩ := h; exact h
theorem Held.to {D D' : Nat → Nat} (he : EndTo 0 D D' W W' n y) (hD : ∀ b, b < w0.heap.size → 8 ≤ D b) (hf : Fresh w0 W) (hK : ∀ b, K b → 8 ≤ D b ∧ w0.heap.size ≤ b ∧ b < W.heap.size) : Held K w0 W' n y ∧ Touch (fun b => ¬ K b) W W' := by
  have hs := hf.size
  have hs2 := he.touch.size
  refine ⟨⟨D', he.at_, fun b hb => ?_, hf.trans he.touch (fun b hb e => ?_), fun b hb => ?_⟩, he.touch.mono fun b hb e e2 => ?_⟩
  · rw [he.lab.1 b (by omega)]; exact hD b hb
  · unfold All at e
    have := hD b hb
    omega
  · obtain ⟨h1, h2, h3⟩ := hK b hb
    rw [he.lab.1 b h3]
    exact ⟨h1, h2, by omega⟩
  · unfold All at e
    have := (hK b e2).1
    omega
theorem Held.old (h : Held K w0 W n x) (hf : Fresh W W') : Held K w0 W' n x := by
  obtain ⟨D, h1, h2, h3, h4⟩ := h
  have := hf.size
  exact ⟨D, h1.old hf (fun _ _ => rfl), h2, h3.trans hf (fun _ _ e => e), fun b hb => ⟨(h4 b hb).1, (h4 b hb).2.1, by have := (h4 b hb).2.2; omega⟩⟩
/-- What a call that hands signals out leaves. -/
def SigPost (K : Nat → Prop) (w0 W : World) (n : Nat) (y : En.X × List Cn.Sig) (e : Ending) (w' : World) : Prop := ∃ A c, e = .returned (.slice A y.2.length c) ∧ Held K w0 w' n y.1 ∧ Sl sigE w' A c y.2 ∧ Touch (fun b => ¬ K b) W w' ∧ ∀ ad, A = some ad → W.heap.size ≤ ad.block
theorem Held.tick (h : Held K w0 W n x) {hi hi2 : Int} (hf : En.Fit x hi hi2) : Calls Tryz.prog 17 #[.pointer (some ⟨n, 0, none⟩)] W (SigPost K w0 W n (En.tick x)) := by
  obtain ⟨D, ⟨_, _, _, _, _, _, _, _, _, hin⟩, h2, h3, h4⟩ := h
  refine (ntick_any hin hf).mono ?_
  rintro e w' ⟨D', A, c, rfl, h5, h6, h7⟩
  have h8 := Held.to h5 h2 h3 h4
  exact ⟨A, c, rfl, h8.1, h6, h8.2, fun ad e => (h7 ad e).1⟩
theorem Held.request (h : Held K w0 W n x) {kd : Int} {d : ByteArray} {m : Int} (hR : ∀ {D cn pc un sp rp A ca B cb}, EndIn 0 D W n cn pc un sp rp A ca B cb x → Calls Tryz.prog 12 #[.pointer (some ⟨n, 0, none⟩), .agg #[.int .i64 kd, .string d, .int .i64 m]] W (AskPost 0 D W n (En.request x kd d m))) : Calls Tryz.prog 12 #[.pointer (some ⟨n, 0, none⟩), .agg #[.int .i64 kd, .string d, .int .i64 m]] W fun e w' => ∃ A c, e = .returned (.tuple #[.slice A (En.request x kd d m).2.1.length c, .int .i64 (En.request x kd d m).2.2]) ∧ Held K w0 w' n (En.request x kd d m).1 ∧ Sl sigE w' A c (En.request x kd d m).2.1 ∧ Touch (fun b => ¬ K b) W w' ∧ ∀ ad, A = some ad → W.heap.size ≤ ad.block := by
  obtain ⟨D, ⟨_, _, _, _, _, _, _, _, _, hin⟩, h2, h3, h4⟩ := h
  refine (hR hin).mono ?_
  rintro e w' ⟨D', A, c, rfl, h5, h6, h7⟩
  have h8 := Held.to h5 h2 h3 h4
  exact ⟨A, c, rfl, h8.1, h6, h8.2, fun ad e => (h7 ad e).1⟩
/-- What goes out: a unit whose list is one's own, or none. -/
theorem Held.next (h : Held K w0 W n x) {hi hi2 : Int} (hf : En.Fit x hi hi2) (hl : ∀ s r, x.ep = some (s, r) → x.stat = false ∧ r.gaps = [] ∧ ∀ p F W, SendAt W p F (Sf.prog s) → Calls Tryz.prog 43 #[.pointer (some ⟨p, 0, none⟩)] W (SNext W p F s)) : Calls Tryz.prog 14 #[.pointer (some ⟨n, 0, none⟩)] W fun e w' => ∃ u' : Cn.Pd, e = .returned (.tuple #[pduV u', .bool (En.next x).2.isSome]) ∧ Held K w0 w' n (En.next x).1 ∧ Touch (fun b => ¬ K b) W w' ∧ ∀ u l, (En.next x).2 = some (u, l) → u'.kind = u.kind ∧ u'.sq = u.sq ∧ u'.n = u.n ∧ u'.data = u.data := by
  obtain ⟨D, ⟨_, _, _, _, _, _, _, _, _, hin⟩, h2, h3, h4⟩ := h
  refine (nnext_lite hin hf hl).mono ?_
  rintro e w' ⟨D', u', rfl, h5, h6⟩
  have h8 := Held.to h5 h2 h3 h4
  refine ⟨u', rfl, h8.1, h8.2, fun u l e => ?_⟩
  rcases h6 u l e with ⟨rfl, -⟩ | ⟨A, c, rfl, -⟩ <;> exact ⟨rfl, rfl, rfl, rfl⟩
theorem Held.quiet (h : Held K w0 W n x) (hl : ∀ e, x.ep = some e → e.1.last.length = e.1.kept.length) : Calls Tryz.prog 18 #[.pointer (some ⟨n, 0, none⟩)] W fun e w' => e = .returned (.bool (En.quiet x)) ∧ Fresh W w' := by
  obtain ⟨D, ⟨_, _, _, _, _, _, _, _, _, hin⟩, h2, h3, -⟩ := h
  exact nquiet_any hin hl
theorem Held.safe (h : Held K w0 W n x) : Calls Tryz.prog 19 #[.pointer (some ⟨n, 0, none⟩)] W fun e w' => e = .returned (.bool (Pc.safe x.tm)) ∧ Fresh W w' := by
  obtain ⟨D, ⟨_, _, _, _, _, _, _, _, _, hin⟩, h2, h3, -⟩ := h
  exact nsafe_any hin
theorem Held.vars (h : Held K w0 W n x) (hag : ∀ e, x.ep = some e → e.1.again.length ≤ 16777216) : Calls Tryz.prog 15 #[.pointer (some ⟨n, 0, none⟩)] W fun e w' => ∃ A' c', e = .returned (.agg (En.varsC x A' c').toArray) ∧ Fresh W w' := by
  obtain ⟨D, ⟨_, _, _, _, _, _, _, _, _, hin⟩, h2, h3, -⟩ := h
  refine (nvars_any hin hag).mono ?_
  rintro e w' ⟨A', c', h1, h4, -⟩
  exact ⟨A', c', h1, h4⟩
/-- A new end of any config. -/
theorem held_start (x0 x1 x2 x3 x4 x5 : Int) (A : Option Addr) (c : Nat) (L : List Int) (w0 w : World) (h : Rd intE w A c L) (hf : Fresh w0 w) :
    Calls Tryz.prog 8 #[.agg #[.int .i64 x0, .int .i64 x1, .int .i64 x2, .int .i64 x3, .int .i64 x4, .int .i64 x5, .slice A L.length c]] w fun e w' => ∃ n q, e = .returned (.pointer (some ⟨n, 0, none⟩)) ∧ Ope.CfOf (max 1 (min x0 16)) (max 1 (min x1 64)) (max 1 (min x2 256)) (max 1 (min x3 64)) (max 1 (min x4 256)) (x5 % 16777216) q ∧ Held NK w0 w' n (En.new q) ∧ Fresh w w' := by
  refine (nstart_any x0 x1 x2 x3 x4 x5 A c L w h).mono ?_
  rintro e w' ⟨n, c0, c1, c2, c3, c4, rfl, hg, hn⟩
  obtain ⟨D', l1, a1⟩ := hn.end_ 0 (fun _ => 40)
  have hs := hf.size
  exact ⟨n, _, rfl, ⟨hg, rfl, rfl, rfl, rfl, rfl, rfl⟩, ⟨D', a1, fun b hb => by rw [l1.1 b (by omega)]; show 8 ≤ 40; omega, hf.trans hn.fresh (fun _ _ e => e), fun _ e => e.elim⟩, hn.fresh⟩
/-- An end that is Ready, of any config. -/
theorem held_opened (x0 x1 x2 x3 x4 x5 : Int) (A : Option Addr) (c : Nat) (L : List Int) (w0 w : World) (h : Rd intE w A c L) (hf : Fresh w0 w) :
    Calls Tryz.prog 7 #[.agg #[.int .i64 x0, .int .i64 x1, .int .i64 x2, .int .i64 x3, .int .i64 x4, .int .i64 x5, .slice A L.length c]] w fun e w' => ∃ n q X, e = .returned (.tuple #[.pointer (some ⟨n, 0, none⟩), .agg (Rn.cells X).toArray]) ∧ Ope.CfOf (max 1 (min x0 16)) (max 1 (min x1 64)) (max 1 (min x2 256)) (max 1 (min x3 64)) (max 1 (min x4 256)) (x5 % 16777216) q ∧ (X.y2 = max 1 (min x2 256) ∧ X.y3 = max 1 (min x3 64)) ∧ Held NK w0 w' n (Ope.x3 q ((x5 % 16777216 + 31) % 16777216)) ∧ Fresh w w' := by
  refine (opened_any x0 x1 x2 x3 x4 x5 A c L w h).mono ?_
  rintro e w' ⟨n, q, X, D, rfl, hq, hx, he, hD, hf2⟩
  have hs := hf.size
  exact ⟨n, q, X, rfl, hq, hx, ⟨D, he, fun b hb => by rw [hD b (by omega)]; omega, hf.trans hf2 (fun _ _ e => e), fun _ e => e.elim⟩, hf2⟩
end
set_option maxRecDepth 20000
namespace Al
open En (X Fit)
theorem G.asked {y0 y1 y2 y3 y4 y5 : Int} {q : Nd.C} (hq : Ope.CfOf y0 y1 y2 y3 y4 y5 q) : ∃ y, En.request (En.new q) 1 Cn.no 0 = (y, [], 0) ∧ G (q.start % 16777216) y 0 656 := by
  refine ⟨_, Ope.ask1 q, hq.good, rfl, rfl, rfl, rfl, .inr (.inl ⟨rfl, rfl, rfl, rfl, ?_, q.cc, ?_, hq.good.1.1, ?_, ?_⟩)⟩
  · exact ⟨by show List.Nodup [(1 : Int)]; simp, fun u hu => (by rw [List.mem_singleton.1 hu]; show (1 : Int) ≤ 1 ∧ (1 : Int) ≤ 15; decide), by show q.start % 16777216 ≤ q.start % 16777216 ∧ _ - q.start % 16777216 ≤ _; omega, by show q.start % 16777216 ≤ q.start % 16777216 ∧ _ - q.start % 16777216 ≤ _; omega, fun e he => (by cases he), rfl⟩
  · show [max 1 (min q.cc 1048576), 0, 0, 0, 0] = _
    rw [start_clamp hq.good.1]
  · show (1 : Int) ≤ max 1 (min q.most 16); omega
  · show (max 1 (min q.most 16) - 1) * q.cc + q.cc ≤ ((656 : Nat) : Int)
    have h1 := hq.good.1
    have h2 : (max 1 (min q.most 16) - 1) * q.cc ≤ 15 * 41 := Int.mul_le_mul (by omega) h1.2 (by omega) (by decide)
    omega
theorem G.opened {y0 y1 y2 y3 y4 y5 : Int} {q : Nd.C} (hq : Ope.CfOf y0 y1 y2 y3 y4 y5 q) (n : Int) : G (q.start % 16777216) (Ope.x3 q n) 0 656 := by
  obtain ⟨h1, h2, h3, h4, h5, h6, h7⟩ := Ope.opn_wait (Sf.new q.start q.queue q.polls) n
  have hs := hq.good.2.2.2.1
  refine ⟨hq.good, rfl, rfl, rfl, rfl, .inr (.inr ⟨rfl, rfl, _, _, q.poll, 0, q.silent, q.start % 16777216, rfl, h1, h2, h3, h4, ?_, rfl, rfl, hs.1, ?_, Ope.fit3 n, ?_⟩)⟩
  · show 1 ≤ (Sf.opn _ _).polls
    rw [h5]
    show 1 ≤ max 1 (min q.polls 256); omega
  · show q.silent ≤ ((656 : Nat) : Int); omega
  · show q.start % 16777216 + q.silent + 0 ≤ q.start % 16777216 + 100; omega
theorem G.fit {lo : Int} {x : X} {told m : Nat} (h : G lo x told m) : ∃ hi, Fit x hi lo := by
  rcases h.ways with ⟨h1, h2, h3, h4, h5, h6⟩ | ⟨h1, h2, h3, h4, h6, h7⟩ | ⟨h1, h2, s, r, a, b, t, hi, e1, e2, e3, e4, e5, e6, e7, e8, e9, e10, hF, hhi⟩
  · exact ⟨_, h6⟩
  · exact ⟨_, h6⟩
  · exact ⟨_, hF⟩
theorem G.calm {lo : Int} {x : X} {told m : Nat} (h : G lo x told m) : ∀ s r, x.ep = some (s, r) → x.stat = false ∧ r.gaps = [] ∧ s.wait = [] ∧ s.again = [] := fun s r e => by
  rcases h.ways with ⟨h1, h2, _⟩ | ⟨h1, h2, _⟩ | ⟨h1, h2, s', r', a, b, t, hi, e1, e2, e3, e4, e5, e6, e7, _⟩
  · rw [h2] at e; cases e
  · rw [h2] at e; cases e
  · rw [e1] at e
    injection e with e
    injection e with g1 g2
    subst g1 g2
    exact ⟨h.sf, e7, e2, e4⟩
theorem G.told {lo : Int} {x : X} {told m : Nat} (h : G lo x told m) : told ≤ 1 := by
  rcases h.ways with ⟨h1, h2, h3, h4, h5, h6⟩ | ⟨h1, h2, h3, h4, h6, h7⟩ | ⟨h1, h2, _⟩ <;> omega
theorem least {P : Nat → Prop} (h : ∃ k, P k) : ∃ k, P k ∧ ∀ j, P j → k ≤ j := by
  obtain ⟨k, hk⟩ := h
  induction k using Nat.strongRecOn with
  | ind k ih =>
    by_cases hj : ∃ j, j < k ∧ P j
    · obtain ⟨j, h1, h2⟩ := hj
      exact ih j h1 h2
    · refine ⟨k, hk, fun j h => ?_⟩
      rcases Nat.lt_or_ge j k with h1 | h1
      · exact absurd ⟨j, h1, h⟩ hj
      · exact h1
/-- Something goes out yet. -/
def Lft (w0 : World) (n : Nat) (lo : Int) (told m : Nat) (w : World) (k : Nat) : Prop := ∃ x, Held NK w0 w n x ∧ G lo x told m ∧ mu x = k
open Classical in
noncomputable def lft (w0 : World) (n : Nat) (lo : Int) (told m : Nat) (w : World) : Nat := if h : ∃ k, Lft w0 n lo told m w k then Classical.choose (least h) else 0
theorem lft_spec {w0 : World} {n : Nat} {lo : Int} {told m : Nat} {w : World} (h : ∃ k, Lft w0 n lo told m w k) : Lft w0 n lo told m w (lft w0 n lo told m w) ∧ ∀ j, Lft w0 n lo told m w j → lft w0 n lo told m w ≤ j := by
  have := Classical.choose_spec (least h)
  unfold lft
  rw [dif_pos h]
  exact this
theorem cnt_succ (l : List Cn.Sig) (k : Nat) (hk : k < l.length) : cnt (l.take (k + 1)) = cnt (l.take k) + if (l[k].kind == 3 && l[k].self) = true then 1 else 0 := by
  rw [List.take_succ_eq_append_getElem hk, cnt_append]
  congr 1
  unfold cnt
  rw [List.filter_cons]
  split <;> rfl
end Al
set_option maxRecDepth 20000
set_option linter.constructorNameAsVariable false

theorem vars_len {x : En.X} (he : x.ep = none) (A : Option Addr) (c : Nat) : (En.varsC x A c).length = 31 ∧ (∀ v ∈ En.varsC x A c, v.oneCell' = true) ∧ (En.varsC x A c)[0]? = some (.int .i64 x.conn.state) ∧ (x.tm = [0, 0, 0, 0, 0] → ((En.varsC x A c).drop 26).take 5 = [.int .i64 0, .int .i64 0, .int .i64 0, .int .i64 0, .int .i64 0]) := by
  obtain ⟨x0, x1, x2, x3, x4, x5, x6, x7, x8, x9, ep⟩ := x
  dsimp only at he
  subst he
  refine ⟨rfl, ?_, rfl, fun h => ?_⟩
  · simp [En.varsC, En.vcells, En.connV, En.sV, En.rV, En.noS, En.noR, En.tmK, Value.oneCell']
  · dsimp only at h
    subst h
    rfl
theorem zsI : (Tryz.prog.info? 70).map (·.size) = some 5 := by kernel_rfl
theorem vrI : (Tryz.prog.info? 72).map (·.size) = some 31 := by kernel_rfl
set_option maxHeartbeats 16000000 in
theorem polliwogAlone.core (x0 x1 x2 x3 x4 x5 : Int) (A : Option Addr) (c : Nat) (L : List Int) (how n : Int) (w : World) (h : Rd intE w A c L) :
    Calls Tryz.prog 5 #[.agg #[.int .i64 x0, .int .i64 x1, .int .i64 x2, .int .i64 x3, .int .i64 x4, .int .i64 x5, .slice A L.length c], .int .i64 how, .int .i64 n] w fun e w' => e = .returned (.bool true) ∧ Fresh w w' := by
  have HR := Lib.hid h
  have HOP : Hid (∀ W, Fresh w W → Calls Tryz.prog 7 #[.agg #[.int .i64 x0, .int .i64 x1, .int .i64 x2, .int .i64 x3, .int .i64 x4, .int .i64 x5, .slice A L.length c]] W fun e w' => ∃ m X x lo, e = .returned (.tuple #[.pointer (some ⟨m, 0, none⟩), .agg (Rn.cells X).toArray]) ∧ Held NK w w' m x ∧ Al.G lo x 0 656 ∧ Fresh W w') := fun W hW => by
    refine (held_opened x0 x1 x2 x3 x4 x5 A c L w W (HR.out.touch hW (fun _ _ _ e => e)) hW).mono ?_
    rintro e w' ⟨m, q, X, rfl, hq, -, hh, hf⟩
    exact ⟨m, X, _, _, rfl, hh, Al.G.opened hq _, hf⟩
  have HST : Hid (∀ W, Fresh w W → Calls Tryz.prog 8 #[.agg #[.int .i64 x0, .int .i64 x1, .int .i64 x2, .int .i64 x3, .int .i64 x4, .int .i64 x5, .slice A L.length c]] W fun e w' => ∃ m x y lo, e = .returned (.pointer (some ⟨m, 0, none⟩)) ∧ Held NK w w' m x ∧ (En.request x 1 Cn.no 0 = (y, [], 0) ∧ (∃ hi hi2, En.Fit x hi hi2) ∧ x.left = [] ∧ Cn.askErr x.conn 1 Cn.no = 0) ∧ Al.G lo y 0 656 ∧ Fresh W w') := fun W hW => by
    refine (held_start x0 x1 x2 x3 x4 x5 A c L w W (HR.out.touch hW (fun _ _ _ e => e)) hW).mono ?_
    rintro e w' ⟨m, q, rfl, hq, hh, hf⟩
    obtain ⟨y, h1, h2⟩ := Al.G.asked hq
    exact ⟨m, _, y, _, rfl, hh, ⟨h1, ⟨_, _, Ope.fit_new⟩, rfl, rfl⟩, h2, hf⟩
  clear h HR
  obtain ⟨cin, hcin⟩ : ∃ cin : List Value, cin = [.int .i64 x0, .int .i64 x1, .int .i64 x2, .int .i64 x3, .int .i64 x4, .int .i64 x5, .slice A L.length c] := ⟨_, rfl⟩
  have hcin2 : cin.toArray = #[.int .i64 x0, .int .i64 x1, .int .i64 x2, .int .i64 x3, .int .i64 x4, .int .i64 x5, .slice A L.length c] := by rw [hcin]
  have HCL : Hid (cin.length = 7) := by rw [hcin]; rfl
  rw [← hcin2] at HOP HST ⊢
  obtain ⟨w1, hw1⟩ : ∃ w1, w1 = w.alloc (.cells cin.toArray 24) := ⟨_, rfl⟩
  have HB1 : Hid (Blk w1 w.heap.size 24 cin) := by rw [hw1]; exact Blk.new w _ _
  have HF1 : Hid (Fresh w w1) := by rw [hw1]; exact (Touch.refl _ _).alloc _
  clear hcin hcin2
  go_enter Tryz.func5, Tryz.ntmps5
  go_upto_region 1 with (fail)
  rw [← hw1]
  clear hw1
  generalize w.heap.size = bc at *
  refine wp_region_lit ?_
  refine wpList_loadB rfl _ (.tmp 3) rfl bc 0 (by rfl) cin HB1.out.range Tryz.underlying24 rfl (by rw [HCL.out]; exact cfI) ?_
  go_wp2_with fail
  refine (HOP.out _ HF1.out).mono ?_
  rintro e w2 ⟨m, X, x, lo, rfl, hh, hg, hf⟩
  have HH := Lib.hid hh
  have HG := Lib.hid hg
  have HB2 := Lib.hid (hf.blk HB1.out (fun e => e))
  clear hh hg hf HOP HB1 HF1
  simp only
  go_upto_region 2 with (refine stN rfl (.tmp 8) (.tmp 23) rfl (by rfl) X (by rfl) (Blk.new w2 40 rnZ) rfl ?_; intro w3 hB ht; have HF3 : Hid (Fresh w2 w3) := ((Touch.refl _ w2).alloc (.cells rnZ.toArray 40)).trans ht (fun b hb e => by have e : b = w2.heap.size := e; omega); clear hB ht)
  have HH3 := Lib.hid (HH.out.old HF3.out)
  have HB3 := Lib.hid (HF3.out.blk HB2.out (fun e => e))
  clear HH HB2 HF3
  go_upto_if 26 with (fail)
  go_cut [7] (fun v wx => ∃ m x lo, v = .pointer (some ⟨m, 0, none⟩) ∧ Hid (Held NK w wx m x) ∧ Hid (Al.G lo x 0 656))
  case first =>
    by_cases he : bits BinOp.and .i64 how 1 = 0
    · have hb : (bits BinOp.and .i64 how 1 == 0) = true := by rw [he]; rfl
      clear he
      go_upto_region 3 with (fail)
      refine wp_region_lit ?_
      refine wpList_loadB rfl _ (.tmp 3) rfl bc 0 (by rfl) cin HB3.out.range Tryz.underlying24 rfl (by rw [HCL.out]; exact cfI) ?_
      go_wp2_with fail
      refine (HST.out _ HH3.out.fresh).mono ?_
      rintro e w4 ⟨m2, x2, y, lo2, rfl, hh, ⟨hq, ⟨hi, hi2, hfx⟩, hlx, hes⟩, hg, hf⟩
      have HG2 := Lib.hid hg
      have HRQ : Hid (Calls Tryz.prog 12 #[.pointer (some ⟨m2, 0, none⟩), .agg #[.int .i64 1, .string { data := #[] }, .int .i64 0]] w4 fun e w' => ∃ A c, e = .returned (.tuple #[.slice A 0 c, .int .i64 0]) ∧ Held NK w w' m2 y) := by
        have := hh.request (kd := 1) (d := Cn.no) (m := 0) fun hin => nrequest_conn hin hfx (by rw [hlx]; exact Nat.zero_le _) 1 Cn.no 0 (Nat.zero_le _) (by decide) hes
        rw [hq] at this
        exact this.mono fun e w' ⟨A, c, h1, h2, _⟩ => ⟨A, c, h1, h2⟩
      clear hh hq hfx hlx hes hg hf HST HH3 HG HB3
      simp only
      go_upto_region 6 with (fail)
      go_wp2_with (go_at_call 12; (with_reducible refine HRQ.out.mono ?_); rintro e w5 ⟨A5, c5, rfl, h5⟩; have HH5 := Lib.hid h5; clear h5; simp only)
      go_meet
      case rel => exact ⟨m2, y, lo2, rfl, HH5, HG2⟩
    · have hb : (bits BinOp.and .i64 how 1 == 0) = false := beq_eq_false_iff_ne.2 he
      clear he
      go_wp2_with fail
      go_meet
      case rel => exact ⟨m, x, lo, rfl, HH3, HG⟩
  case rest =>
  clear HH3 HG HST HB3
  obtain ⟨m1, x1', lo1, rfl, HH, HG⟩ := hcut
  generalize wc = w6 at *
  obtain ⟨r, hr⟩ : ∃ r, bits BinOp.and .i64 n 15 = r := ⟨_, rfl⟩
  have hr0 : 0 ≤ r := by rw [← hr, and_15]; omega
  have hr1 : r ≤ 15 := by rw [← hr, and_15]; omega
  go_upto_block 0 with (fail)
  go_cut [11] (fun v wx => v = .int .i64 1 ∧ ∃ x, Hid (Held NK w wx m1 x) ∧ Hid (Al.G lo1 x 1 0 ∧ x.ctl = []))
  case first =>
    go_wp2_with fail
    go_loopw [44, 11] (fun i v wr => ∃ (k told : Nat) (x : En.X), i = .int .i64 k ∧ (k : Int) ≤ 706 + r ∧ v = .int .i64 (told : Int) ∧ Hid (Held NK w wr m1 x) ∧ Hid (Al.G lo1 x told (656 - k)) ∧ Hid (0 < k → x.ctl = [])) (fun i _ _ => (721 - intOf i).toNat)
    case atStart => exact ⟨0, 0, x1', rfl, by omega, rfl, HH.out, HG.out, fun h => absurd h (Nat.lt_irrefl 0)⟩
    case round =>
      clear HH HG
      obtain ⟨k, told, x, rfl, hk, rfl, HH, HG, HC⟩ := hrel
      by_cases hlt : (k : Int) < 706 + r
      · have hk0 : (0 : Int) ≤ (k : Int) := by omega
        clear HC
        obtain ⟨hi, hfx⟩ := HG.out.fit
        have HTK := Lib.hid (HH.out.tick hfx)
        have HGT : Hid (Al.G lo1 (En.tick x).1 (told + Al.cnt (En.tick x).2) (656 - (k + 1))) := by
          have := HG.out.tick
          rw [show 656 - (k + 1) = 656 - k - 1 by omega]
          exact this
        have HTL := Lib.hid HGT.out.told
        clear hfx HH HG
        generalize En.tick x = Z at *
        obtain ⟨x2, l⟩ := Z
        dsimp only at HGT HTL
        go_wp2_with fail
        refine HTK.out.mono ?_
        rintro e w7 ⟨A7, c7, rfl, h7, hs7, -⟩
        have HH : Hid (Held NK w w7 m1 x2) := h7
        have HS : Hid (Sl sigE w7 A7 c7 l) := hs7
        have hlm : (l.length : Int) ≤ 9223372036854775807 := by
          have h1 : l.length ≤ c7 := hs7.1
          have h2 := hs7.2.1
          unfold maxLen at h2
          omega
        clear h7 hs7 HTK
        simp only
        go_upto_block 2 with (fail)
        go_cut [11] (fun v wx => v = .int .i64 ((told + Al.cnt l : Nat) : Int) ∧ Hid (Fresh w7 wx))
        case first =>
          clear HGT HH
          go_wp2_with fail
          go_loopw [49, 11] (fun i v wr => ∃ j : Nat, j ≤ l.length ∧ i = .int .i64 j ∧ v = .int .i64 ((told + Al.cnt (l.take j) : Nat) : Int) ∧ Hid (Fresh w7 wr)) (fun i _ _ => l.length - (intOf i).toNat)
          case atStart => exact ⟨0, by omega, rfl, rfl, Touch.refl _ _⟩
          case round =>
            obtain ⟨j, hj, rfl, rfl, HFR⟩ := hrel
            by_cases hl : j < l.length
            · have hj1 : (j : Int) < (l.length : Int) := by omega
              have hj0 : (0 : Int) ≤ (j : Int) := by omega
              obtain ⟨gA, oA, hA, hgA, hc⟩ := (HS.out.touch HFR.out (fun _ _ e => e)).rd.psig_at j hl
              have HCS := Lib.hid (Al.cnt_succ l j hl)
              have hb1 : (told : Int) + (Al.cnt (l.take j) : Int) ≤ 1 := by
                have h1 := HTL.out
                have h2 : Al.cnt l = Al.cnt (l.take j) + Al.cnt (l.drop j) := by rw [← Al.cnt_append, List.take_append_drop]
                omega
              have hb0 : (0 : Int) ≤ ((told + Al.cnt (l.take j) : Nat) : Int) := by omega
              have hb2 : ((told + Al.cnt (l.take j) : Nat) : Int) ≤ 1 := by omega
              generalize l[j] = s at *
              have y0 : wr.cell? ⟨gA, oA + j * 5, none⟩ = some (.int .i64 s.kind) := by have := hc 0 _ rfl; simpa [Nat.add_assoc] using this
              have y1 : wr.cell? ⟨gA, oA + j * 5 + 1, none⟩ = some (.string s.data) := by have := hc 1 _ rfl; simpa [Nat.add_assoc] using this
              have y2 : wr.cell? ⟨gA, oA + j * 5 + 2, none⟩ = some (.bool s.self) := by have := hc 2 _ rfl; simpa [Nat.add_assoc] using this
              have y3 : wr.cell? ⟨gA, oA + j * 5 + 3, none⟩ = some (.int .u8 s.code) := by have := hc 3 _ rfl; simpa [Nat.add_assoc] using this
              have y4 : wr.cell? ⟨gA, oA + j * 5 + 4, none⟩ = some (.int .i64 s.n) := by have := hc 4 _ rfl; simpa [Nat.add_assoc] using this
              rw [hA]
              have HA := Lib.hid hA
              clear hA hc
              have HFA : Hid (∀ o, Fresh w7 (wr.alloc o)) := fun o => HFR.out.alloc o
              have HNX : Hid (∀ z : Nat, z = (if (s.kind == 3 && s.self) = true then 1 else 0) → told + Al.cnt (l.take (j + 1)) = told + Al.cnt (l.take j) + z) := fun z hz => by rw [HCS.out, hz]; omega
              clear HCS HFR hb1
              generalize told + Al.cnt (l.take j) = tt at *
              generalize s.self = sf at *
              by_cases hk3 : s.kind = 3
              · rw [hk3] at HNX y0
                clear hk3
                cases sf
                · go_wp2_with fail
                  go_roundw
                  case rel => exact ⟨j + 1, by omega, by go_num, by rw [HNX.out 0 rfl]; rfl, HFA.out _⟩
                  case measure => simp [intOf]; omega
                · go_wp2_with fail
                  go_roundw
                  case rel => exact ⟨j + 1, by omega, by go_num, by rw [HNX.out 1 rfl]; rfl, HFA.out _⟩
                  case measure => simp [intOf]; omega
              · have hk3 : (s.kind == 3) = false := beq_eq_false_iff_ne.2 hk3
                have HNX0 := Lib.hid (HNX.out 0 (by rw [hk3]; rfl))
                clear HNX
                generalize s.kind = kd at *
                go_wp2_with fail
                go_roundw
                case rel => exact ⟨j + 1, by omega, by go_num, by rw [HNX0.out]; rfl, HFA.out _⟩
                case measure => simp [intOf]; omega
            · obtain rfl : j = l.length := by omega
              rw [List.take_length]
              go_wp2_with fail
              go_meet
              case rel => exact ⟨rfl, HFR⟩
        case rest =>
        obtain ⟨rfl, HF8⟩ := hcut
        have HH8 := Lib.hid (HH.out.old HF8.out)
        clear HH HF8 HS
        generalize told + Al.cnt l = tt at *
        generalize wc = w8 at *
        go_upto_block 4 with (fail)
        go_wp2_with fail
        go_loopw [15] (fun v wr => Hid (∃ j, Al.Lft w m1 lo1 tt (656 - (k + 1)) wr j)) (fun v wr => Al.lft w m1 lo1 tt (656 - (k + 1)) wr)
        case atStart => exact ⟨_, x2, HH8.out, HGT.out, rfl⟩
        case round =>
          clear HH8 HGT
          obtain ⟨j, hj⟩ : ∃ j, Al.lft w m1 lo1 tt (656 - (k + 1)) wr = j := ⟨_, rfl⟩
          obtain ⟨⟨x3, hx3, hg3, hm3⟩, hl3⟩ := Al.lft_spec hrel.out
          rw [hj] at hm3 hl3
          obtain ⟨hi3, hf3⟩ := hg3.fit
          have HN := Lib.hid (hx3.next hf3 (fun s r e => by obtain ⟨q1, q2, q3, q4⟩ := hg3.calm s r e; exact ⟨q1, q2, snext_calm q3 q4⟩))
          have HGN := Lib.hid hg3.next
          have HJ := Lib.hid hj
          have HM := Lib.hid hm3
          have HG3 := Lib.hid hg3
          clear hx3 hf3 hg3 hm3 hl3 hj hrel
          generalize En.next x3 = Z at *
          obtain ⟨x4, o⟩ := Z
          dsimp only at HN HGN
          cases ho : o.isSome
          · rw [ho] at HN
            have HOE : Hid (x4 = x3 ∧ x3.ctl = []) := by
              have := HGN.out.2.2 (by cases o; rfl; cases ho)
              exact ⟨this.1, this.2.1⟩
            have HG4 := Lib.hid HGN.out.1
            clear HGN ho
            go_wp2_with fail
            refine HN.out.mono ?_
            rintro e w9 ⟨u', rfl, h9, -⟩
            have H9 := Lib.hid h9
            clear h9 HN
            unfold pduV
            simp only
            go_wp2_with fail
            go_roundw
            case rel => exact ⟨k + 1, tt, x4, by go_num, by omega, rfl, H9.out.old ((Touch.refl _ _).alloc _), HG4, fun _ => by rw [HOE.out.1]; exact HOE.out.2⟩
            case measure => simp [intOf]; omega
          · rw [ho] at HN
            have HG4 := Lib.hid HGN.out.1
            have HLT : Hid (Al.mu x4 < j) := by have := HGN.out.2.1 ho; rw [HM.out] at this; exact this
            clear HGN ho
            go_wp2_with fail
            refine HN.out.mono ?_
            rintro e w9 ⟨u', rfl, h9, -⟩
            have H9 := Lib.hid h9
            clear h9 HN
            unfold pduV
            simp only
            go_wp2_with fail
            go_roundw
            case rel => exact ⟨_, x4, H9.out.old ((Touch.refl _ _).alloc _), HG4.out, rfl⟩
            case measure =>
              have h1 : Al.Lft w m1 lo1 tt (656 - (k + 1)) (w9.alloc (.cells #[.int .i64 u'.kind, .int .i64 u'.sq, .int .u32 u'.n, .int .u32 u'.ps, .int .u32 u'.mr, .slice u'.lA u'.ln u'.lc, .bool u'.self, .string u'.data] 58)) (Al.mu x4) := ⟨x4, H9.out.old ((Touch.refl _ _).alloc _), HG4.out, rfl⟩
              have h2 := (Al.lft_spec ⟨_, h1⟩).2 _ h1
              have h3 := HLT.out
              have h4 := HJ.out
              omega
      · have hke : (k : Int) = 706 + r := by omega
        have HD : Hid (Al.G lo1 x told 0 ∧ x.ctl = []) := by
          have h1 := HG.out
          rw [show 656 - k = 0 by omega] at h1
          exact ⟨h1, HC.out (by omega)⟩
        have ht : told = 1 := (HD.out.1.done HD.out.2).2.1
        subst ht
        go_wp2_with fail
        go_meet
        case rel => exact ⟨rfl, x, HH, HD⟩
  case rest =>
  clear HH HG
  obtain ⟨rfl, x9, HH, HD⟩ := hcut
  generalize wc = w9 at *
  obtain ⟨d1, -, d3, d4, d5, d6⟩ := HD.out.1.done HD.out.2
  have HV := Lib.hid (HH.out.vars (fun e he => by rw [d6] at he; cases he))
  have HQT : Hid (∀ W, Fresh w9 W → Calls Tryz.prog 18 #[.pointer (some ⟨m1, 0, none⟩)] W fun e w' => e = .returned (.bool true) ∧ Fresh W w') := fun W hW => by
    have := (HH.out.old hW).quiet (fun e he => by rw [d6] at he; cases he)
    rw [d4] at this
    exact this
  have HSF : Hid (∀ W, Fresh w9 W → Calls Tryz.prog 19 #[.pointer (some ⟨m1, 0, none⟩)] W fun e w' => e = .returned (.bool true) ∧ Fresh W w') := fun W hW => by
    have := (HH.out.old hW).safe
    rw [d5] at this
    exact this
  have HVE := Lib.hid (fun A' c' => vars_len d6 A' c')
  rw [d1] at HVE
  have HTM := Lib.hid d3
  have HFW := Lib.hid HH.out.fresh
  clear d1 d3 d4 d5 d6 HH HD
  go_wp2_with fail
  refine HV.out.mono ?_
  rintro e wa ⟨A', c', rfl, hfa⟩
  obtain ⟨v1, v2, v3, v4⟩ := HVE.out A' c'
  have HVL := Lib.hid v1
  have HV1 := Lib.hid v2
  have HV0 := Lib.hid v3
  have HV26 := Lib.hid (v4 HTM.out)
  have HFA := Lib.hid hfa
  clear v1 v2 v3 v4 hfa HVE HV HTM
  generalize En.varsC x9 A' c' = V at *
  simp only
  go_upto_region 24 with (refine wpList_storeB rfl _ (.tmp 16) (.tmp 72) rfl wa.heap.size 0 (by rfl) V (by rfl) (Blk.new wa 72 En.vzero) (by rw [HVL.out]; exact Nat.le_of_ble_eq_true rfl) (by rw [HVL.out]; exact vrI) HV1.out ?_; intro wb hB ht; have HB : Hid (Blk wb wa.heap.size 72 V) := hB.eq_cells (by rw [List.take_zero, List.nil_append, List.drop_eq_nil_of_le (by rw [HVL.out]; exact Nat.le_of_ble_eq_true rfl), List.append_nil]); have HFB : Hid (Fresh w9 wb) := (HFA.out.trans ((Touch.refl _ wa).alloc (.cells En.vzero.toArray 72)) (fun _ _ e => e)).trans ht (fun b hb e => by have e : b = wa.heap.size := e; have := HFA.out.size; omega); clear hB ht)
  generalize wa.heap.size = bv at *
  have HRG : Hid (wb.rangeAt bv 26 [.int .i64 0, .int .i64 0, .int .i64 0, .int .i64 0, .int .i64 0]) := HB.out.range_at 26 (sub_at 26 HV26.out)
  have c0 : wb.cell? ⟨bv, 0, none⟩ = some (.int .i64 1) := by have := HB.out.cell 0; rw [HV0.out] at this; exact this
  clear HFA HVL HV1 HV0 HV26 HB
  refine wp_region_lit ?_
  go_wp2_with (refine wpList_loadB rfl _ (.tmp 73) rfl bv 26 (by rfl) [.int .i64 0, .int .i64 0, .int .i64 0, .int .i64 0, .int .i64 0] HRG.out Tryz.underlying70 rfl zsI ?_)
  go_loopw [75] (fun i wr => ∃ j : Nat, j ≤ 5 ∧ i = .int .i64 j ∧ wr = wb) (fun i _ => 5 - (intOf i).toNat)
  case atStart => exact ⟨0, by omega, rfl, rfl⟩
  case round =>
    obtain ⟨j, hj, rfl, rfl⟩ := hrel
    by_cases hl : j < 5
    · have hj1 : (j : Int) < 5 := by omega
      have hix : ∀ W, (Instr.index 70 (.agg #[.int .i64 0, .int .i64 0, .int .i64 0, .int .i64 0, .int .i64 0]) (.int .i64 (j : Int))).run Tryz.prog W = .ok (.int .i64 0) W := fun W => by
        rcases (show j = 0 ∨ j = 1 ∨ j = 2 ∨ j = 3 ∨ j = 4 by omega) with rfl | rfl | rfl | rfl | rfl <;> kernel_rfl
      go_wp2_with fail
      go_roundw
      case rel => exact ⟨j + 1, by omega, by go_num, by first | rfl | trivial⟩
      case measure => simp [intOf]; omega
    · obtain rfl : j = 5 := by omega
      rw [show ((5 : Nat) : Int) = 5 from rfl]
      go_wp2_with (first
        | (go_at_call 18; (with_reducible refine (HQT.out _ HFB.out).mono ?_); rintro e wc ⟨rfl, f3⟩; have HFC := Lib.hid (HFB.out.trans f3 (fun _ _ e => e)); clear f3; simp only)
        | (go_at_call 19; (with_reducible refine (HSF.out _ HFC.out).mono ?_); rintro e wd ⟨rfl, f3⟩; have HFD := Lib.hid (HFC.out.trans f3 (fun _ _ e => e)); clear f3; simp only))
      go_ret
      exact ⟨rfl, HFW.out.trans HFD.out (fun _ _ e => e)⟩
end Go.Proofs.YtipaobpmojahaaaGreat
