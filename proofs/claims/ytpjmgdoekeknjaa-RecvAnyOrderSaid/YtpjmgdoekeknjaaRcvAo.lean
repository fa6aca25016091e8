/-
  RecvAnyOrder: messages of a window, in whatever order they come, again and again, all come, in their order.
-/
import Derived.Test.YtpjmgdoekeknjaaPutC
import Derived.Test.YtpjmgdoekeknjaaRcvAp
import Derived.Test.YtpjmgdoekeknjaaSameS
import Derived.Test.YtpjmgdoekeknjaaTyB
namespace Go.Proofs.Ytpjmgdoekeknjaa
open Go.RowKit Go.ChangeShapes Go.WideShapes Go.ChangeAt

set_option maxHeartbeats 8000000 in
set_option maxRecDepth 4000 in
theorem recvAnyOrder.core (start : Int) (Am : Option Addr) (cm : Nat) (M : List ByteArray) (A : Option Addr) (c : Nat) (l : List Int) (w : World) (hM : Rd strE w Am cm M) (hMs : ∀ s ∈ M, s.size ≤ maxLen) (h : Rd intE w A c l) :
    Calls Try.prog 4 #[.int .i64 start, .slice Am M.length cm, .slice A l.length c] w fun e w' => e = .returned (.bool true) ∧ Below w.heap.size w w' := by
  have hlc := h.1
  have hcm := h.2.1
  have hMc := hM.1
  have hMm := hM.2.1
  unfold maxLen at hcm hMm
  have H := Lib.hid h
  have HM := Lib.hid hM
  have HMS := Lib.hid hMs
  have HAM : Hid (∀ ad, Am = some ad → 0 < M.length → ad.block < w.heap.size) := fun ad e h0 => by
    obtain ⟨g, o, e2, hg, _⟩ := hM.str_at 0 h0
    rw [e] at e2
    exact (Option.some.inj e2) ▸ hg
  clear h hM hMs
  have hmf : ∀ (fn : Fn) (first cap : Array Value) (w : World), (Instr.makeFunc fn first cap).run Try.prog w = .ok (.func fn first cap) w := fun _ _ _ _ => rfl
  go_enter Try.func4, Try.ntmps4
  go_wp2_with fail
  obtain ⟨w0, hw0⟩ : ∃ w0, w0 = (w.alloc (.cells #[.int .i64 start] 3)).alloc (.cells #[.slice Am M.length cm] 30) := ⟨_, rfl⟩
  have F0 : Hid (Fresh w w0) := by rw [hw0]; exact ((Touch.refl _ _).alloc _).alloc _
  have BS0 : Hid (Blk w0 w.heap.size 3 [.int .i64 start]) := by rw [hw0]; exact (Blk.new w _ _).alloc _
  have BM0 : Hid (Blk w0 (w.heap.size + 1) 30 [.slice Am M.length cm]) := by
    rw [hw0]
    have := Blk.new (w.alloc (.cells #[.int .i64 start] 3)) 30 [.slice Am M.length cm]
    unfold Hid
    simpa using this
  rw [← hw0]
  clear hw0
  obtain ⟨gs, hgs⟩ : ∃ gs, gs = w.heap.size := ⟨_, rfl⟩
  obtain ⟨gm, hgm⟩ : ∃ gm, gm = w.heap.size + 1 := ⟨_, rfl⟩
  rw [← hgs] at BS0
  rw [← hgm] at BM0
  rw [← hgm, ← hgs]
  have HLO : Hid (w.heap.size ≤ gs ∧ w.heap.size ≤ gm) := by unfold Hid; omega
  clear hgs hgm
  refine (awake12 w0).mono ?_
  rintro e w1 ⟨rfl, f1⟩
  have F1 : Hid (Fresh w w1) := F0.out.trans f1 (fun _ _ h => h)
  have BS1 := Lib.hid (f1.blk BS0.out (fun h => h))
  have BM1 := Lib.hid (f1.blk BM0.out (fun h => h))
  clear f1 F0 BS0 BM0
  have hcs : w1.cell? ⟨gs, 0, none⟩ = some (.int .i64 start) := BS1.out.cell 0
  have hcm1 : w1.cell? ⟨gm, 0, none⟩ = some (.slice Am M.length cm) := BM1.out.cell 0
  simp only
  go_wp2_with fail
  obtain ⟨n, hn⟩ : ∃ n : Nat, n = min M.length 60 := ⟨_, rfl⟩
  have hnI : min (M.length : Int) 60 = (n : Int) := by omega
  have hn60 : n ≤ 60 ∧ n ≤ M.length := by omega
  rw [hnI]
  clear hnI hn
  refine (sof_any start w1).mono ?_
  rintro e w2 ⟨rfl, rfl⟩
  obtain ⟨s0, hs0⟩ : ∃ s0, s0 = start % 16777216 := ⟨_, rfl⟩
  have hsb : 0 ≤ s0 ∧ s0 < 16777216 := by omega
  simp only
  rw [← hs0]
  have HS0 := Lib.hid hs0
  clear hs0
  go_wp2_with fail
  refine (onewR s0 64 F1.out (st := Rv.new s0 64) rfl).mono ?_
  rintro e w3 ⟨p, F, rfl, h3, f3, hF⟩
  have H3 := Lib.hid h3
  have HF3 : Hid (∀ x, F x → w2.heap.size ≤ x) := hF
  have HGS : Hid (gs < w2.heap.size ∧ gm < w2.heap.size) := ⟨BS1.out.lt, BM1.out.lt⟩
  have BS3 := Lib.hid (f3.blk BS1.out (fun h => h))
  have BM3 := Lib.hid (f3.blk BM1.out (fun h => h))
  clear h3 hF BS1 BM1 hcs hcm1
  simp only
  go_upto_block 0 with (fail)
  obtain ⟨gr, hgr⟩ : ∃ gr, gr = w3.heap.size := ⟨_, rfl⟩
  obtain ⟨gg, hgg⟩ : ∃ gg, gg = w3.heap.size + 1 := ⟨_, rfl⟩
  rw [← hgg, ← hgr]
  have PI : Hid (PutIn w ((w3.alloc (.cells #[.pointer (some ⟨p, 0, none⟩)] 24)).alloc (.cells #[.slice none 0 0] 30)) gg gr gs gm p start Am cm M F (Rv.new s0 64) none 0 []) := by
    have hlim := H3.out.at_.lim
    have h1 := F1.out.size
    have h2 := f3.size
    have h3 := HLO.out
    have h4 := HGS.out
    have hF3 := HF3.out
    have f5 : Fresh w3 ((w3.alloc (.cells #[.pointer (some ⟨p, 0, none⟩)] 24)).alloc (.cells #[.slice none 0 0] 30)) := ((Touch.refl _ _).alloc _).alloc _
    refine ⟨H3.out.old f5, ?_, by rw [hgr]; exact (Blk.new w3 _ _).alloc _, f5.blk BS3.out (fun h => h), f5.blk BM3.out (fun h => h), HM.out.touch ((F1.out.trans f3 (fun _ _ h => h)).trans f5 (fun _ _ h => h)) (fun _ _ _ h => h), Sl.nil _ _, HAM.out, fun _ e => (by cases e), ⟨by omega, by omega, h3.1, h3.2⟩, ⟨fun hf => ?_, fun hf => ?_, fun hf => ?_, fun hf => ?_⟩, ⟨by omega, by omega, by omega⟩⟩
    · have := Blk.new (w3.alloc (.cells #[.pointer (some ⟨p, 0, none⟩)] 24)) 30 [.slice none 0 0]
      rw [hgg]
      simpa using this
    · have := hlim _ hf; omega
    · have := hlim _ hf; omega
    · have := hF3 _ hf; omega
    · have := hF3 _ hf; omega
  generalize (w3.alloc (.cells #[.pointer (some ⟨p, 0, none⟩)] 24)).alloc (.cells #[.slice none 0 0] 30) = w5 at *
  obtain ⟨f, hf⟩ : ∃ f : Nat → ByteArray, f = fun i => cut5 (M.getD i ByteArray.empty) := ⟨_, rfl⟩
  have HFE := Lib.hid hf
  have CA : Hid (Rv.Came s0 f n (fun _ => False) 0 0 (Rv.new s0 64)) := Rv.Came.new s0 hsb f n
  have HPUT : Hid (∀ (wx : World) (Fx : Nat → Prop) (st : Rv.S) (Ax : Option Addr) (cx : Nat) (a k : Nat) (C : Nat → Prop) (G : List ByteArray) (i : Nat), i < n → k ≤ 500 → PutIn w wx gg gr gs gm p start Am cm M Fx st Ax cx G → Rv.Came s0 f n C a k st → G = (List.range a).map f →
      Calls Try.prog 18 #[.int .i64 i, .pointer (some ⟨gg, 0, none⟩), .pointer (some ⟨gr, 0, none⟩), .pointer (some ⟨gs, 0, none⟩), .pointer (some ⟨gm, 0, none⟩)] wx fun e w' =>
        ∃ F' st' A' c' a' G', e = .returned (.tuple #[]) ∧ G' = (List.range a').map f ∧ Rv.Came s0 f n (fun j => C j ∨ j = i) a' (k + 1) st' ∧ PutIn w w' gg gr gs gm p start Am cm M F' st' A' c' G') := by
    intro wx Fx st Ax cx a k C G i hi hk hpi hca hG
    obtain ⟨a', st', ha, hd, hca'⟩ := hca.data hn60.1 i hi
    have han := hca'.an
    have h0 := hca.inb
    have h1 := hca.len
    have h2 := hca.gaps
    have h3 := hca.an
    have hin : st.inbox.length = a := by rw [h0]; simp
    have hGl : G.length = a := by rw [hG]; simp
    refine (put_any (L := (List.range' a (a' - a)).map f) (st' := st') hpi i (by omega) HMS.out (by omega) (by rw [hGl]; simp; omega) (by
      have e : (start + (i : Int)) % 16777216 = (s0 + i) % 16777216 := by rw [HS0.out]; omega
      have e2 : cut5 (M.getD i ByteArray.empty) = f i := by rw [HFE.out]
      rw [e, e2]
      exact hd)).mono ?_
    rintro e w' ⟨F', A', c', G', rfl, hG', hp'⟩
    refine ⟨F', st', A', c', a', G', rfl, ?_, hca', hp'⟩
    rw [hG'.out, hG, ← List.map_append]
    congr 1
    rw [List.range_eq_range', List.range_eq_range', show a' = a + (a' - a) by omega, ← List.range'_append_1]
    simp
  clear H3 HF3 BS3 BM3 HGS hgr hgg f3 HM HAM HLO hf
  go_cut [] (fun wx => ∃ (k a : Nat) (Fx : Nat → Prop) (st : Rv.S) (Ax : Option Addr) (cx : Nat) (C : Nat → Prop) (G : List ByteArray), k ≤ 100 ∧ Hid (PutIn w wx gg gr gs gm p start Am cm M Fx st Ax cx G) ∧ Hid (Rv.Came s0 f n C a k st) ∧ Hid (G = (List.range a).map f))
  case first =>
    go_wp2_with fail
    go_loopw [11] (fun i wr => ∃ (k a : Nat) (Fx : Nat → Prop) (st : Rv.S) (Ax : Option Addr) (cx : Nat) (C : Nat → Prop) (G : List ByteArray), k ≤ l.length ∧ k ≤ 100 ∧ i = .int .i64 k ∧ Hid (PutIn w wr gg gr gs gm p start Am cm M Fx st Ax cx G) ∧ Hid (Rv.Came s0 f n C a k st) ∧ Hid (G = (List.range a).map f)) (fun i _ => l.length - (intOf i).toNat)
    case atStart => exact ⟨0, 0, F, _, none, 0, _, [], by omega, by omega, rfl, PI, CA, by simp [Hid]⟩
    case round =>
      clear PI CA
      obtain ⟨k, a, Fx, st, Ax, cx, C, G, hk, hk2, rfl, PI, CA, HG⟩ := hrel
      have hcont : (k < l.length ∧ k < 100 ∧ 0 < n) ∨ ¬ (k < l.length ∧ k < 100 ∧ 0 < n) := Decidable.em _
      rcases hcont with ⟨hk1, hk3, hn0⟩ | hstop
      · have hk1' : (k : Int) < (l.length : Int) := by omega
        have hdk1 : decide ((k : Int) < (l.length : Int)) = true := decide_eq_true hk1'
        have hk2' : (k : Int) < 100 := by omega
        have hdk2 : decide ((k : Int) < 100) = true := decide_eq_true hk2'
        have hk3' : (0 : Int) < (n : Int) := by omega
        have hdk3 : decide ((0 : Int) < (n : Int)) = true := decide_eq_true hk3'
        have hk0 : (0 : Int) ≤ (k : Int) := by omega
        obtain ⟨g, o, rfl, _, c0⟩ := (H.out.touch PI.out.own.fresh (fun _ _ _ h => h)).int_at k hk1
        generalize l.getD k 0 = y at *
        have hy : -(n : Int) < y.tmod (n : Int) ∧ y.tmod (n : Int) < (n : Int) := by
          have h1 := Int.tmod_lt_of_pos y hk3'
          have h2 := Int.tmod_lt_of_pos (-y) hk3'
          rw [Int.neg_tmod] at h2
          omega
        obtain ⟨j, hj⟩ : ∃ j : Nat, (y.tmod (n : Int) + (n : Int)).tmod (n : Int) = (j : Int) := ⟨((y.tmod (n : Int) + (n : Int)).tmod (n : Int)).toNat, by
          have := Int.tmod_nonneg (n : Int) (show 0 ≤ y.tmod (n : Int) + (n : Int) by omega)
          omega⟩
        have hjn : j < n := by
          have := Int.tmod_lt_of_pos (y.tmod (n : Int) + (n : Int)) hk3'
          omega
        have hnz : ((n : Int) == 0) = false := by simp; omega
        have HC := Lib.hid (HPUT.out wr Fx st Ax cx a k C G j hjn (by omega) PI.out CA.out HG.out)
        clear PI CA HG
        go_wp2_with fail
        refine HC.out.mono ?_
        rintro e w6 ⟨F', st', A', c', a', G', rfl, hG', hca', hp'⟩
        have PI := Lib.hid hp'
        have CA := Lib.hid hca'
        have HG := Lib.hid hG'
        clear hp' hca' hG' HC hj hy
        try simp only
        go_wp2
        go_roundw
        case rel => exact ⟨k + 1, a', F', st', A', c', _, G', by omega, by omega, by go_num, PI, CA, HG⟩
        case measure => simp [intOf]; omega
      · rcases (show (¬ (k : Int) < (l.length : Int)) ∨ ((k : Int) < (l.length : Int) ∧ ¬ (k : Int) < 100) ∨ ((k : Int) < (l.length : Int) ∧ (k : Int) < 100 ∧ ¬ (0 : Int) < (n : Int)) by omega) with hk1 | ⟨hk1, hk2'⟩ | ⟨hk1, hk2', hk3⟩
        · have hdk1 : decide ((k : Int) < (l.length : Int)) = false := decide_eq_false hk1
          go_wp2
          go_meet
          case rel => exact ⟨k, a, Fx, st, Ax, cx, C, G, hk2, PI, CA, HG⟩
        · have hdk1 : decide ((k : Int) < (l.length : Int)) = true := decide_eq_true hk1
          have hdk2 : decide ((k : Int) < 100) = false := decide_eq_false hk2'
          go_wp2
          go_meet
          case rel => exact ⟨k, a, Fx, st, Ax, cx, C, G, hk2, PI, CA, HG⟩
        · have hdk1 : decide ((k : Int) < (l.length : Int)) = true := decide_eq_true hk1
          have hdk2 : decide ((k : Int) < 100) = true := decide_eq_true hk2'
          have hdk3 : decide ((0 : Int) < (n : Int)) = false := decide_eq_false hk3
          go_wp2
          go_meet
          case rel => exact ⟨k, a, Fx, st, Ax, cx, C, G, hk2, PI, CA, HG⟩
  case rest =>
    obtain ⟨k, a, Fx, st, Ax, cx, C, G, hk, PI2, CA2, HG2⟩ := hcut
    clear PI CA
    have CA3 : Hid (Rv.Came s0 f n (fun i => n ≤ i + 0) a k st) := CA2.out.mono (fun i h1 h2 => by omega)
    clear CA2
    go_wp2_with fail
    go_loopw [52] (fun i wx => ∃ (t k a : Nat) (Fx : Nat → Prop) (st : Rv.S) (Ax : Option Addr) (cx : Nat) (G : List ByteArray), t ≤ n ∧ k ≤ 100 + t ∧ i = .int .i64 t ∧ Hid (PutIn w wx gg gr gs gm p start Am cm M Fx st Ax cx G) ∧ Hid (Rv.Came s0 f n (fun i => n ≤ i + t) a k st) ∧ Hid (G = (List.range a).map f)) (fun i _ => n - (intOf i).toNat)
    case atStart => exact ⟨0, k, a, Fx, st, Ax, cx, G, by omega, by omega, rfl, PI2, CA3, HG2⟩
    case round =>
      clear PI2 CA3 HG2
      obtain ⟨t, k, a, Fx, st, Ax, cx, G, ht, hk, rfl, PI, CA, HG⟩ := hrel
      by_cases htn : t < n
      · have htn' : (t : Int) < (n : Int) := by omega
        obtain ⟨j, hj⟩ : ∃ j : Nat, j = n - 1 - t := ⟨_, rfl⟩
        have hjI : (n : Int) - 1 - (t : Int) = (j : Int) := by omega
        have hjn : j < n := by omega
        have HC := Lib.hid (HPUT.out wr Fx st Ax cx a k _ G j hjn (by omega) PI.out CA.out HG.out)
        have HJ := Lib.hid hj
        clear PI CA HG hj
        go_wp2_with fail
        refine HC.out.mono ?_
        rintro e w6 ⟨F', st', A', c', a', G', rfl, hG', hca', hp'⟩
        have PI := Lib.hid hp'
        have CA : Hid (Rv.Came s0 f n (fun i => n ≤ i + (t + 1)) a' (k + 1) st') := hca'.mono (fun i h1 h2 => by
          have := HJ.out
          rcases Nat.lt_or_ge (i + t) n with h | h
          · right; omega
          · left; exact h)
        have HG := Lib.hid hG'
        clear hp' hca' hG' HC hjI
        try simp only
        go_wp2
        go_roundw
        case rel => exact ⟨t + 1, k + 1, a', F', st', A', c', G', by omega, by omega, by go_num, PI, CA, HG⟩
        case measure => simp [intOf]; omega
      · obtain rfl : t = n := by omega
        have htn' : ¬ (t : Int) < (t : Int) := by omega
        obtain ⟨h1, h2, h3⟩ := CA.out.all hn60.1 (fun i _ => by omega)
        subst h1
        have HIB := Lib.hid h3
        have HMN := Lib.hid h2
        clear htn h2 h3 CA
        have hGl : G.length = a := by rw [HG.out]; simp
        have hmne : st.m.length = 0 := by rw [HMN.out]; rfl
        have hine : st.inbox.length = a := by rw [HIB.out]; simp
        have hgI : ((G.length : Int) != (a : Int)) = false := by rw [hGl]; simp
        have hfm := rvars_m st
        have hfi := rvars_inbox st
        rw [hmne] at hfm
        rw [hine] at hfi
        have haa : ((a : Int) != (a : Int)) = false := by simp
        have cg := PI.out.bg.cell 0
        have cr := PI.out.br.cell 0
        simp only [List.getElem?_cons_zero] at cg cr
        have HV := Lib.hid (ovarsR PI.out.own)
        go_wp2_with fail
        refine HV.out.mono ?_
        rintro e w6 ⟨rfl, h6, f6⟩
        have PI6 : Hid (PutIn w w6 gg gr gs gm p start Am cm M Fx st Ax cx G) := PI.out.old f6
        have cg6 := PI6.out.bg.cell 0
        have cr6 := PI6.out.br.cell 0
        simp only [List.getElem?_cons_zero] at cg6 cr6
        clear h6 f6 HV cg cr PI
        have HV := Lib.hid (ovarsR PI6.out.own)
        generalize Rv.varsV st = vv at *
        try simp only
        go_wp2_with fail
        refine HV.out.mono ?_
        rintro e w7 ⟨rfl, h7, f7⟩
        have PI7 : Hid (PutIn w w7 gg gr gs gm p start Am cm M Fx st Ax cx G) := PI6.out.old f7
        clear h7 f7 HV cg6 cr6 PI6
        try simp only
        go_wp2_with fail
        clear hgI hfm hfi hmne
        have hvs : Hid (∀ t, t < a → (M.getD t ByteArray.empty).size ≤ maxLen) := fun t ht => by
          have h1 : t < M.length := by omega
          rw [List.getD_eq_getElem?_getD, List.getElem?_eq_getElem h1]
          exact HMS.out _ (List.getElem_mem h1)
        go_loopw [80] (fun i wx => ∃ t : Nat, t ≤ a ∧ i = .int .i64 t ∧ Hid (PutIn w wx gg gr gs gm p start Am cm M Fx st Ax cx G)) (fun i _ => a - (intOf i).toNat)
        case atStart => exact ⟨0, by omega, rfl, PI7⟩
        case round =>
          clear PI7
          obtain ⟨t, ht, rfl, PI⟩ := hrel
          have cg := PI.out.bg.cell 0
          have cr := PI.out.br.cell 0
          have cm0 := PI.out.bm.cell 0
          simp only [List.getElem?_cons_zero] at cg cr cm0
          by_cases hta : t < a
          · have hta' : (t : Int) < (a : Int) := by omega
            have ht0 : (0 : Int) ≤ (t : Int) := by omega
            have htG : (t : Int) < (G.length : Int) := by omega
            have htM : (t : Int) < (M.length : Int) := by omega
            obtain ⟨g1, o1, rfl, _, c1⟩ := PI.out.got.str_at t (by omega)
            obtain ⟨g2, o2, rfl, _, c2⟩ := PI.out.msgs.str_at t (by omega)
            have hvt := hvs.out t hta
            have hxv : G.getD t ByteArray.empty = cut5 (M.getD t ByteArray.empty) := by
              rw [HG.out, List.getD_eq_getElem?_getD, List.getElem?_map, List.getElem?_range hta, HFE.out]
              rfl
            generalize G.getD t ByteArray.empty = x at *
            generalize M.getD t ByteArray.empty = v at *
            have hb : (x.toList == (cut5 v).toList) = true := str_eq hxv
            have HCUT : Hid (∀ m, Calls Try.prog 19 #[.string v, .int .i64 5] (wr.drewN m) fun e w'' => e = .returned (.string (cut5 v)) ∧ ∃ m, w'' = wr.drewN m) := fun m =>
              (cut5_any v (wr.drewN m) hvt).mono fun e w'' ⟨h1, h2⟩ => ⟨h1, m, h2⟩
            clear hxv hvt hta
            go_wp2
            go_quiet ((first
              | (go_at_call 19; with_reducible exact HCUT.out _)))
            go_wp2
            go_roundw
            case rel => exact ⟨t + 1, by omega, by go_num, PI.out.old ((Touch.refl _ _).drewN _)⟩
            case measure => simp [intOf]; omega
          · obtain rfl : t = a := by omega
            have hta' : ¬ (t : Int) < (t : Int) := by omega
            clear hta
            have KE : Hid (∀ wx, Touch Fx wr wx → wx.cell? ⟨gr, 0, none⟩ = some (.pointer (some ⟨p, 0, none⟩)) ∧ wx.cell? ⟨gg, 0, none⟩ = some (.slice Ax G.length cx)) := fun wx ht =>
              ⟨(ht.blk PI.out.br PI.out.out.2.1).cell 0, (ht.blk PI.out.bg PI.out.out.1).cell 0⟩
            have hT1 : Calls Try.prog 21 #[.pointer (some ⟨p, 0, none⟩), .int .i64 100] wr.drew (OutR w wr.drew p Fx { st with inbox := [] } G) := by
              have h1 := otakeR 100 (PI.out.own.old (Touch.refl _ _).drew) (by omega) t (by omega)
              have e1 : st.inbox.take t = G := by rw [HG.out, HIB.out, List.take_of_length_le (by simp)]
              have e2 : st.inbox.drop t = [] := List.drop_eq_nil_of_le (by omega)
              rw [e1, e2] at h1
              exact h1
            have HT1 := Lib.hid hT1
            have HSA : Hid (∀ (A7 : Option Addr) (c7 : Nat) (wx : World), Sl strE wx A7 c7 G → Sl strE wx Ax cx G → Calls Try.prog 20 #[.slice A7 G.length c7, .slice Ax G.length cx] wx fun e w' => e = .returned (.bool true) ∧ Fresh wx w') := fun A7 c7 wx h1 h2 =>
              (sames_any A7 Ax c7 cx G G wx h1.rd h2.rd).mono fun e w' ⟨h3, h4⟩ => ⟨by rw [h3, decide_eq_true rfl], h4⟩
            have HT2 : Hid (∀ (F7 : Nat → Prop) (wx : World), OwnRecv w wx p F7 { st with inbox := [] } → Calls Try.prog 21 #[.pointer (some ⟨p, 0, none⟩), .int .i64 1] wx (OutR w wx p F7 { st with inbox := [] } [])) := fun F7 wx h => otakeR 1 h (by simp) 0 (by show max (0 : Int) (min 1 ((([] : List ByteArray).length : Nat) : Int)) = 0; rfl)
            have GT : Hid (∀ wx, Touch Fx wr.drew wx → Sl strE wx Ax cx G) := fun wx ht => PI.out.got.drew.touch ht (fun ad e => (PI.out.base ad e).2)
            have HFB : Hid (∀ (x : Nat) (F7 : Nat → Prop), (∀ x, F7 x → Fx x ∨ wr.drew.heap.size ≤ x) → F7 x → x < wr.heap.size → Fx x) := fun x F7 h1 h2 h3 => by
              rcases h1 x h2 with e | e
              · exact e
              · have e : wr.heap.size ≤ x := e
                omega
            clear hGl hine
            go_wp2
            go_region_held3 (fun wx => wx.cell? ⟨gr, 0, none⟩ = some (.pointer (some ⟨p, 0, none⟩)) ∧ wx.cell? ⟨gg, 0, none⟩ = some (.slice Ax G.length cx))
              (first
                | exact ⟨cr, cg⟩
                | with_reducible exact KE.out _ (by with_reducible assumption)
                | with_reducible assumption)
              (first
                | (go_simp; go_at_call 21; (with_reducible refine HT1.out.mono ?_); rintro e' w7 ⟨F7, A7, c7, rfl, s7, h7, t7, f7, _⟩; have T7 : Touch Fx wr w7 := (Touch.refl Fx wr).drew.trans t7 (fun _ _ h => h); try simp only)
                | (go_simp; go_at_call 20; (with_reducible refine (HSA.out _ _ _ s7 (GT.out _ t7)).mono ?_); rintro e' w8 ⟨rfl, f8⟩; have T8 : Touch Fx wr w8 := T7.trans f8 (fun _ _ h => h.elim); try simp only)
                | (go_simp; go_at_call 21; (with_reducible refine (HT2.out _ _ (h7.old f8)).mono ?_); rintro e' w9 ⟨F9, A9, c9, rfl, s9, h9, t9, f9, _⟩; have T9 : Touch Fx wr w9 := T8.trans t9 (fun x hx hf => HFB.out x _ f7 hf hx); try simp only [List.length_nil]))
            all_goals
              go_wp2
              go_ret
              exact ⟨rfl, h9.fresh.below (Nat.le_refl _) (fun _ _ h => h)⟩

set_option maxRecDepth 10000 in
theorem recvAnyOrder.walk (start : Int) (v1 v2 : Value) (w : World) (_h0 : (Lit.int .i64 start).wf = true) {H : Type} {enc : TypeId × Value → H} {b0 : Nat} {d1 : DataW H} {p1 : List MemPlace} (hv1 : Value.okWide Try.prog w .any b0 30 v1) (h1 : DataW.Trod enc Try.prog w 0 (fun _ => true) true 30 v1 d1 p1)
    {d : DataW H} {p : List MemPlace} (hv : Value.okWide Try.prog w .any b0 22 v2) (h : DataW.Trod enc Try.prog w 0 (fun _ => true) true 22 v2 d p) :
    Calls Try.prog 4 #[.int .i64 start, v1, v2] w fun e w' => e = .returned (.bool true) ∧ Below w.heap.size w w' := by
  obtain ⟨A, c, l, rfl, hr, _⟩ := open_rd_int hv h
  obtain ⟨A1, c1, l1, rfl, hr1, hs1⟩ := open_rd_str hv1 h1
  exact recvAnyOrder.core start A1 c1 l1 A c l w hr1 hs1 hr
end Go.Proofs.Ytpjmgdoekeknjaa
