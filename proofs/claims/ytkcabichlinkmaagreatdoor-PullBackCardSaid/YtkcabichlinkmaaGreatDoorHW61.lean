/- A tree's node. -/
import Derived.Test.YtkcabichlinkmaaGreatDoorHCd3a
import Derived.Test.YtkcabichlinkmaaGreatDoorHCd3b
import Derived.Test.YtkcabichlinkmaaGreatDoorHTT
import Derived.Test.YtkcabichlinkmaaGreatDoorHMM
namespace Go.EV
set_option maxRecDepth 100000
theorem cl98 {E : Env} (h : Has E 98 F98) (k n : Int) (s : List Nat) : ∀ H, Cl E (.fn 98 []) [.agg [.int .i64 k, .int .i64 n, .str s]] H (.agg (sd k n s)) H := by
  intro H
  refine Cl.frozen h _ (by kernel_rfl) (by kernel_rfl) (by kernel_rfl) (by kernel_rfl) ?_
  refine Rk.adv 12 (by kernel_rfl) ?_
  refine Rk.fin (v' := AV.agg
  [AV.int IntKind.i64 1, AV.int IntKind.i64 k, AV.int IntKind.i64 n, AV.str s, AV.str [], AV.lst [],
    AV.int IntKind.i64 0, AV.int IntKind.i64 0]) (by kernel_rfl) (by kernel_rfl) (by kernel_rfl) ?_
  rfl
abbrev vc (k : Int) (x : AV) : Blk := .cells 1 36 [.int .i64 k, .int .i64 0, .int .i64 0, .str [], .str [], x, .int .i64 0, .int .i64 0]
/-- The leaves so far. -/
structure In61 (C0 : Hp) (b7 : Nat) (ls : List Lf) (k : Nat) (C : Hp) : Prop where
  len : C0.length ≤ C.length
  ag : Ag (fun c => c = b7) C0 C
  kids : (k = 0 ∧ C[b7]? = some (vc 4 .nils)) ∨ (∃ bl cs, C0.length ≤ bl ∧ C[b7]? = some (vc 4 (.sl 8 bl 0 k)) ∧ C[bl]? = some (.cells 1 36 cs) ∧ cs.length = k * 8 ∧ FzB C (fun c => c < C0.length ∨ c = bl) 5 8 cs k (Lf.nds (ls.take k)))
theorem nds_snoc {ls : List Lf} {k : Nat} {x : Lf} (h : ls[k]? = some x) : Lf.nds (ls.take (k + 1)) = Lf.nds (ls.take k) ++ [x.nd] := by
  rw [Lf.nds_map, Lf.nds_map, List.take_add_one, h]
  simp
theorem In61.next0 {C0 C C' : Hp} {b7 : Nat} {ls : List Lf} {x : Lf} {bl : Nat} {e : List AV} (h : In61 C0 b7 ls 0 C) (hx : ls[0]? = some x) (hlen : C.length ≤ C'.length) (hag : Ag (fun c => c = b7) C C') (h7 : C'[b7]? = some (vc 4 (.sl 8 bl 0 1))) (hbl : C.length ≤ bl) (hb : C'[bl]? = some (.cells 1 36 e)) (he : e.length = 8)
    (hf : FzL C' (fun c => c < C0.length ∨ c = bl) 5 e x.nd) : In61 C0 b7 ls 1 C' := by
  have := h.len
  refine ⟨by omega, h.ag.trans hag, .inr ⟨bl, e, by omega, h7, hb, by omega, ?_⟩⟩
  rw [nds_snoc hx]
  exact FzB.snoc (cs := []) FzB.nil rfl he hf
theorem In61.nextS {C0 C C' : Hp} {b7 : Nat} {ls : List Lf} {k : Nat} {x : Lf} {bl bl' : Nat} {cs e : List AV} (hl0 : C0.length ≤ C.length) (h0 : Ag (fun c => c = b7) C0 C) (hbl0 : C0.length ≤ bl) (hcs : cs.length = k * 8) (hfz : FzB C (fun c => c < C0.length ∨ c = bl) 5 8 cs k (Lf.nds (ls.take k)))
    (hx : ls[k]? = some x) (h7lt : b7 < C0.length) (hlen : C.length ≤ C'.length) (hag : Ag (fun c => c = b7 ∨ c = bl) C C') (h7 : C'[b7]? = some (vc 4 (.sl 8 bl' 0 (k + 1)))) (hbl : C.length ≤ bl') (hb : C'[bl']? = some (.cells 1 36 (cs ++ e))) (he : e.length = 8)
    (hf : FzL C' (fun c => c < C0.length ∨ c = bl') 5 e x.nd) : In61 C0 b7 ls (k + 1) C' := by
  refine ⟨by omega, fun c q hc hq => ?_, .inr ⟨bl', cs ++ e, by omega, h7, hb, by rw [List.length_append, he, Nat.add_mul]; omega, ?_⟩⟩
  · refine hag c q (fun e => ?_) (h0 c q hc hq)
    have := (List.getElem?_eq_some_iff.1 hq).1
    rcases e with e | e
    · exact hc e
    · omega
  · rw [nds_snoc hx]
    refine FzB.snoc (hfz.step (hag.weak fun c hc h => ?_) fun c hc h => ?_) hcs he hf
    · rcases h with rfl | rfl
      · exact .inl h7lt
      · exact .inr rfl
    · rcases h with h | rfl
      · exact .inl h
      · omega
theorem at_endn {H : Hp} {L : List Blk} {n j : Nat} (h : H.length = n) : (H ++ L)[n + j]? = L[j]? := by subst h; exact at_end
theorem fzl_in {C : Hp} {M : Nat → Prop} {b st ty : Nat} {k n : Int} {s : List Nat} {ks : List (List AV)} (hb : C[b]? = some (.cells st ty (sd k n s ++ nd 5 0 0 [] [] ks))) (hm : ¬ M b) : FzL C M 5 [.int .i64 3, .int .i64 0, .int .i64 0, .str [], .str [], .sl 8 b 0 2, .int .i64 0, .int .i64 0] (nd 3 0 0 [] [] [sd k n s, nd 5 0 0 [] [] ks]) := by
  intro C' k'
  have := k' b _ hm hb
  simp [optL, frz, this, chunks, hf]
set_option maxHeartbeats 4000000 in
theorem w61_in {fs : Nat → Option CF} {pr : Nat → List AV → Hp → Option (AV × Hp)} (h98 : Has (E3 fs pr) 98 F98) {ts : List Br} {i : Nat} {ls : List Lf} {C0 : Hp} {b6 b7 : Nat} (h7lt : b7 < C0.length) (hls : ls.length ≤ 10000)
    (ih : ∀ (k : Nat) (kd n : Int) (s : List Nat) (t : List Br), ls[k]? = some (.mk kd n s true t) → ∀ H, Cl (E3 fs pr) (.fn 61 []) [.lst (Br.avs t)] H (.agg (nodeOf t)) H) :
    ∀ (m k : Nat), ls.length - k = m → k ≤ ls.length → ∀ (f : Fr) (C : Hp), In61 C0 b7 ls k C → Knows F61 f [(p32, .int .i64 (Int.ofNat k)), (p30, .lst (Lf.avs ls)), (p31, .int .i64 (Int.ofNat (Lf.avs ls).length)), (p2, .ptr 0 0), (p3, .ptr 1 0), (p6, .ptr b6 0), (p7, .ptr b7 0), (p12, .lst (Br.avs ts)), (p13, .int .i64 (Int.ofNat (Br.avs ts).length)), (p14, .int .i64 (Int.ofNat i))] →
    Rk (E3 fs pr) ⟨[.code c61_17], .norm, f, C⟩ (fun e f' C' => e = .exit 2 ∧ In61 C0 b7 ls ls.length C' ∧ Knows F61 f' [(p2, .ptr 0 0), (p3, .ptr 1 0), (p6, .ptr b6 0), (p7, .ptr b7 0), (p12, .lst (Br.avs ts)), (p13, .int .i64 (Int.ofNat (Br.avs ts).length)), (p14, .int .i64 (Int.ofNat i))]) := by
  intro m
  induction m with
  | zero =>
    intro k hm hkl f C hI hk
    have : k = ls.length := by omega
    subst this
    obtain ⟨g, rfl⟩ := hk.gen
    have hlt : decide (Int.ofNat ls.length < Int.ofNat (Lf.avs ls).length) = false := by rw [Lf.len]; simp
    refine Rk.adv 6 (by kernel_rfl) ?_
    refine Rk.know p33 (decide (Int.ofNat (List.length ls) < Int.ofNat (List.length (Lf.avs ls)))) false (by kernel_rfl) hlt ?_
    refine Rk.adv 4 (by kernel_rfl) ?_
    -- FIN
    refine Rk.doneK F61 (.exit 2) C [(p2, .ptr 0 0), (p3, .ptr 1 0), (p6, .ptr b6 0), (p7, .ptr b7 0), (p12, .lst (Br.avs ts)), (p13, .int .i64 (Int.ofNat (Br.avs ts).length)), (p14, .int .i64 (Int.ofNat i))] [] (by kernel_rfl) (by kernel_rfl) (by kernel_rfl) (by kernel_rfl) (by kernel_rfl) (by kernel_rfl) ?_
    intro f1 hk1 _
    exact ⟨rfl, hI, hk1⟩
  | succ m hi =>
    intro k hm hkl f C hI hk
    obtain ⟨g, rfl⟩ := hk.gen
    have hlt : decide (Int.ofNat k < Int.ofNat (Lf.avs ls).length) = true := by rw [Lf.len]; simp; omega
    obtain ⟨⟨kd, nn, s, j, t⟩, hx⟩ : ∃ x, ls[k]? = some x := ⟨_, List.getElem?_eq_getElem (by omega)⟩
    have hl := Lf.at hx
    have hc := cl98 h98 kd nn s
    have hrec : j = true → ∀ H, Cl (E3 fs pr) (.fn 61 []) [.lst (Br.avs t)] H (.agg (nodeOf t)) H := fun e => ih k kd nn s t (by rw [hx, e])
    obtain ⟨cl, hcl⟩ : ∃ cl, C.length = cl := ⟨_, rfl⟩
    have hlen := hI.len
    clear ih
    rw [← List.append_nil C]
    rcases hI.kids with ⟨rfl, hb7⟩ | ⟨bl, cs, hbl, hb7, hbb, hcs, hfz⟩
    · refine Rk.adv 6 (by kernel_rfl) ?_
      refine Rk.know p33 (decide (Int.ofNat 0 < Int.ofNat (List.length (Lf.avs ls)))) true (by kernel_rfl) hlt ?_
      refine Rk.adv 6 (by kernel_rfl) ?_
      refine Rk.iaddr (l := Lf.avs ls) (n := 0) (c := [AV.int IntKind.i64 kd, AV.int IntKind.i64 nn, AV.str s, AV.bool j, AV.lst (Br.avs t)]) (es := 5) (by kernel_rfl) hl (by kernel_rfl) ?_
      refine Rk.adv 1 (by kernel_rfl) ?_
      refine Rk.alloc hcl (H := C) (L := []) (ty := 76) (z := [AV.int IntKind.i64 0, AV.int IntKind.i64 0, AV.str [], AV.bool false, AV.nils]) 0 (by kernel_rfl) (by kernel_rfl) (by kernel_rfl) ?_
      refine Rk.store hcl (H := C) (L := [Blk.cells 1 76 [AV.int IntKind.i64 0, AV.int IntKind.i64 0, AV.str [], AV.bool false, AV.nils]]) (n := 5) (j := 0) (o := 0) (ty := 76) (cs := [AV.int IntKind.i64 0, AV.int IntKind.i64 0, AV.str [], AV.bool false, AV.nils]) (v := AV.agg [AV.int IntKind.i64 kd, AV.int IntKind.i64 nn, AV.str s, AV.bool j, AV.lst (Br.avs t)]) (by kernel_rfl) (by kernel_rfl) (by kernel_rfl) (by kernel_rfl) ?_
      refine Rk.adv 4 (by kernel_rfl) ?_
      refine Rk.load hcl (H := C) (L := [Blk.cells 1 76 [AV.int IntKind.i64 kd, AV.int IntKind.i64 nn, AV.str s, AV.bool j, AV.lst (Br.avs t)]]) (n := 3) (ag := true) (j := 0) (o := 0) (st := 1) (ty := 76) (cs := [AV.int IntKind.i64 kd, AV.int IntKind.i64 nn, AV.str s, AV.bool j, AV.lst (Br.avs t)]) (v := AV.agg [AV.int IntKind.i64 kd, AV.int IntKind.i64 nn, AV.str s]) (by kernel_rfl) (by kernel_rfl) (by kernel_rfl) (by kernel_rfl) ?_
      refine Rk.callH (H := C ++ [Blk.cells 1 76 [AV.int IntKind.i64 kd, AV.int IntKind.i64 nn, AV.str s, AV.bool j, AV.lst (Br.avs t)]]) (hH := by kernel_rfl) (as := [AV.agg [AV.int IntKind.i64 kd, AV.int IntKind.i64 nn, AV.str s]]) (by kernel_rfl) (hc _) ?_
      refine Rk.alloc hcl (H := C) (L := [Blk.cells 1 76 [AV.int IntKind.i64 kd, AV.int IntKind.i64 nn, AV.str s, AV.bool j, AV.lst (Br.avs t)]]) (ty := 36) (z := [AV.int IntKind.i64 0, AV.int IntKind.i64 0, AV.int IntKind.i64 0, AV.str [], AV.str [], AV.nils, AV.int IntKind.i64 0,
      AV.int IntKind.i64 0]) 1 (by kernel_rfl) (by kernel_rfl) (by kernel_rfl) ?_
      refine Rk.store hcl (H := C) (L := [Blk.cells 1 76 [AV.int IntKind.i64 kd, AV.int IntKind.i64 nn, AV.str s, AV.bool j, AV.lst (Br.avs t)],
      Blk.cells 1 36
        [AV.int IntKind.i64 0, AV.int IntKind.i64 0, AV.int IntKind.i64 0, AV.str [], AV.str [], AV.nils,
          AV.int IntKind.i64 0, AV.int IntKind.i64 0]]) (n := 8) (j := 1) (o := 0) (ty := 36) (cs := [AV.int IntKind.i64 0, AV.int IntKind.i64 0, AV.int IntKind.i64 0, AV.str [], AV.str [], AV.nils, AV.int IntKind.i64 0,
      AV.int IntKind.i64 0]) (v := AV.agg
      [AV.int IntKind.i64 1, AV.int IntKind.i64 kd, AV.int IntKind.i64 nn, AV.str s, AV.str [], AV.lst [],
        AV.int IntKind.i64 0, AV.int IntKind.i64 0]) (by kernel_rfl) (by kernel_rfl) (by kernel_rfl) (by kernel_rfl) ?_
      refine Rk.adv 5 (by kernel_rfl) ?_
      refine Rk.load hcl (H := C) (L := [Blk.cells 1 76 [AV.int IntKind.i64 kd, AV.int IntKind.i64 nn, AV.str s, AV.bool j, AV.lst (Br.avs t)],
      Blk.cells 1 36
        [AV.int IntKind.i64 1, AV.int IntKind.i64 kd, AV.int IntKind.i64 nn, AV.str s, AV.str [], AV.lst [],
          AV.int IntKind.i64 0, AV.int IntKind.i64 0]]) (n := 1) (ag := false) (j := 0) (o := 3) (st := 1) (ty := 76) (cs := [AV.int IntKind.i64 kd, AV.int IntKind.i64 nn, AV.str s, AV.bool j, AV.lst (Br.avs t)]) (v := AV.bool j) (by kernel_rfl) (by kernel_rfl) (by kernel_rfl) (by kernel_rfl) ?_
      refine Rk.adv 1 (by kernel_rfl) ?_
      refine Rk.split p40 (j) (by kernel_rfl) (fun h1 => ?_) (fun h1 => ?_)
      · refine Rk.adv 2 (by kernel_rfl) ?_
        refine Rk.load hcl (H := C) (L := [Blk.cells 1 76 [AV.int IntKind.i64 kd, AV.int IntKind.i64 nn, AV.str s, AV.bool j, AV.lst (Br.avs t)],
      Blk.cells 1 36
        [AV.int IntKind.i64 1, AV.int IntKind.i64 kd, AV.int IntKind.i64 nn, AV.str s, AV.str [], AV.lst [],
          AV.int IntKind.i64 0, AV.int IntKind.i64 0]]) (n := 8) (ag := true) (j := 1) (o := 0) (st := 1) (ty := 36) (cs := [AV.int IntKind.i64 1, AV.int IntKind.i64 kd, AV.int IntKind.i64 nn, AV.str s, AV.str [], AV.lst [],
      AV.int IntKind.i64 0, AV.int IntKind.i64 0]) (v := AV.agg
      [AV.int IntKind.i64 1, AV.int IntKind.i64 kd, AV.int IntKind.i64 nn, AV.str s, AV.str [], AV.lst [],
        AV.int IntKind.i64 0, AV.int IntKind.i64 0]) (by kernel_rfl) (by kernel_rfl) (by kernel_rfl) (by kernel_rfl) ?_
        refine Rk.adv 1 (by kernel_rfl) ?_
        refine Rk.load hcl (H := C) (L := [Blk.cells 1 76 [AV.int IntKind.i64 kd, AV.int IntKind.i64 nn, AV.str s, AV.bool j, AV.lst (Br.avs t)],
      Blk.cells 1 36
        [AV.int IntKind.i64 1, AV.int IntKind.i64 kd, AV.int IntKind.i64 nn, AV.str s, AV.str [], AV.lst [],
          AV.int IntKind.i64 0, AV.int IntKind.i64 0]]) (n := 1) (ag := false) (j := 0) (o := 4) (st := 1) (ty := 76) (cs := [AV.int IntKind.i64 kd, AV.int IntKind.i64 nn, AV.str s, AV.bool j, AV.lst (Br.avs t)]) (v := AV.lst (Br.avs t)) (by kernel_rfl) (by kernel_rfl) (by kernel_rfl) (by kernel_rfl) ?_
        refine Rk.callH (H := C ++
      [Blk.cells 1 76 [AV.int IntKind.i64 kd, AV.int IntKind.i64 nn, AV.str s, AV.bool j, AV.lst (Br.avs t)],
        Blk.cells 1 36
          [AV.int IntKind.i64 1, AV.int IntKind.i64 kd, AV.int IntKind.i64 nn, AV.str s, AV.str [], AV.lst [],
            AV.int IntKind.i64 0, AV.int IntKind.i64 0]]) (hH := by kernel_rfl) (as := [AV.lst (Br.avs t)]) (by kernel_rfl) (hrec h1 _) ?_
        refine Rk.bslice hcl (H := C) (L := [Blk.cells 1 76 [AV.int IntKind.i64 kd, AV.int IntKind.i64 nn, AV.str s, AV.bool j, AV.lst (Br.avs t)],
      Blk.cells 1 36
        [AV.int IntKind.i64 1, AV.int IntKind.i64 kd, AV.int IntKind.i64 nn, AV.str s, AV.str [], AV.lst [],
          AV.int IntKind.i64 0, AV.int IntKind.i64 0]]) (ty := 36) (es := 8) (len := 1) (cs := [AV.int IntKind.i64 1, AV.int IntKind.i64 kd, AV.int IntKind.i64 nn, AV.str s, AV.str [], AV.lst [],
      AV.int IntKind.i64 0, AV.int IntKind.i64 0, AV.int IntKind.i64 5, AV.int IntKind.i64 0, AV.int IntKind.i64 0,
      AV.str [], AV.str [], AV.lst (Br.nds t), AV.int IntKind.i64 0, AV.int IntKind.i64 0]) 2 (by kernel_rfl) (by kernel_rfl) (by kernel_rfl) ?_
        refine Rk.adv 1 (by kernel_rfl) ?_
        refine Rk.store hcl (H := C) (L := [Blk.cells 1 76 [AV.int IntKind.i64 kd, AV.int IntKind.i64 nn, AV.str s, AV.bool j, AV.lst (Br.avs t)],
      Blk.cells 1 36
        [AV.int IntKind.i64 1, AV.int IntKind.i64 kd, AV.int IntKind.i64 nn, AV.str s, AV.str [], AV.lst [],
          AV.int IntKind.i64 0, AV.int IntKind.i64 0],
      Blk.cells 1 36
        [AV.int IntKind.i64 1, AV.int IntKind.i64 kd, AV.int IntKind.i64 nn, AV.str s, AV.str [], AV.lst [],
          AV.int IntKind.i64 0, AV.int IntKind.i64 0, AV.int IntKind.i64 5, AV.int IntKind.i64 0, AV.int IntKind.i64 0,
          AV.str [], AV.str [], AV.lst (Br.nds t), AV.int IntKind.i64 0, AV.int IntKind.i64 0]]) (n := 8) (j := 1) (o := 0) (ty := 36) (cs := [AV.int IntKind.i64 1, AV.int IntKind.i64 kd, AV.int IntKind.i64 nn, AV.str s, AV.str [], AV.lst [],
      AV.int IntKind.i64 0, AV.int IntKind.i64 0]) (v := AV.agg
      [AV.int IntKind.i64 3, AV.int IntKind.i64 0, AV.int IntKind.i64 0, AV.str [], AV.str [], AV.sl 8 (cl + 2) 0 2,
        AV.int IntKind.i64 0, AV.int IntKind.i64 0]) (by kernel_rfl) (by kernel_rfl) (by kernel_rfl) (by kernel_rfl) ?_
        refine Rk.adv 3 (by kernel_rfl) ?_
        refine Rk.loadE hb7 (L := [Blk.cells 1 76 [AV.int IntKind.i64 kd, AV.int IntKind.i64 nn, AV.str s, AV.bool j, AV.lst (Br.avs t)],
      Blk.cells 1 36
        [AV.int IntKind.i64 3, AV.int IntKind.i64 0, AV.int IntKind.i64 0, AV.str [], AV.str [], AV.sl 8 (cl + 2) 0 2,
          AV.int IntKind.i64 0, AV.int IntKind.i64 0],
      Blk.cells 1 36
        [AV.int IntKind.i64 1, AV.int IntKind.i64 kd, AV.int IntKind.i64 nn, AV.str s, AV.str [], AV.lst [],
          AV.int IntKind.i64 0, AV.int IntKind.i64 0, AV.int IntKind.i64 5, AV.int IntKind.i64 0, AV.int IntKind.i64 0,
          AV.str [], AV.str [], AV.lst (Br.nds t), AV.int IntKind.i64 0, AV.int IntKind.i64 0]]) (n := 1) (ag := false) (o := 5) (v := AV.nils) (by kernel_rfl) (by kernel_rfl) (by kernel_rfl) ?_
        refine Rk.load hcl (H := C) (L := [Blk.cells 1 76 [AV.int IntKind.i64 kd, AV.int IntKind.i64 nn, AV.str s, AV.bool j, AV.lst (Br.avs t)],
      Blk.cells 1 36
        [AV.int IntKind.i64 3, AV.int IntKind.i64 0, AV.int IntKind.i64 0, AV.str [], AV.str [], AV.sl 8 (cl + 2) 0 2,
          AV.int IntKind.i64 0, AV.int IntKind.i64 0],
      Blk.cells 1 36
        [AV.int IntKind.i64 1, AV.int IntKind.i64 kd, AV.int IntKind.i64 nn, AV.str s, AV.str [], AV.lst [],
          AV.int IntKind.i64 0, AV.int IntKind.i64 0, AV.int IntKind.i64 5, AV.int IntKind.i64 0, AV.int IntKind.i64 0,
          AV.str [], AV.str [], AV.lst (Br.nds t), AV.int IntKind.i64 0, AV.int IntKind.i64 0]]) (n := 8) (ag := true) (j := 1) (o := 0) (st := 1) (ty := 36) (cs := [AV.int IntKind.i64 3, AV.int IntKind.i64 0, AV.int IntKind.i64 0, AV.str [], AV.str [], AV.sl 8 (cl + 2) 0 2,
      AV.int IntKind.i64 0, AV.int IntKind.i64 0]) (v := AV.agg
      [AV.int IntKind.i64 3, AV.int IntKind.i64 0, AV.int IntKind.i64 0, AV.str [], AV.str [], AV.sl 8 (cl + 2) 0 2,
        AV.int IntKind.i64 0, AV.int IntKind.i64 0]) (by kernel_rfl) (by kernel_rfl) (by kernel_rfl) (by kernel_rfl) ?_
        refine Rk.bslice hcl (H := C) (L := [Blk.cells 1 76 [AV.int IntKind.i64 kd, AV.int IntKind.i64 nn, AV.str s, AV.bool j, AV.lst (Br.avs t)],
      Blk.cells 1 36
        [AV.int IntKind.i64 3, AV.int IntKind.i64 0, AV.int IntKind.i64 0, AV.str [], AV.str [], AV.sl 8 (cl + 2) 0 2,
          AV.int IntKind.i64 0, AV.int IntKind.i64 0],
      Blk.cells 1 36
        [AV.int IntKind.i64 1, AV.int IntKind.i64 kd, AV.int IntKind.i64 nn, AV.str s, AV.str [], AV.lst [],
          AV.int IntKind.i64 0, AV.int IntKind.i64 0, AV.int IntKind.i64 5, AV.int IntKind.i64 0, AV.int IntKind.i64 0,
          AV.str [], AV.str [], AV.lst (Br.nds t), AV.int IntKind.i64 0, AV.int IntKind.i64 0]]) (ty := 36) (es := 8) (len := 0) (cs := [AV.int IntKind.i64 3, AV.int IntKind.i64 0, AV.int IntKind.i64 0, AV.str [], AV.str [], AV.sl 8 (cl + 2) 0 2,
      AV.int IntKind.i64 0, AV.int IntKind.i64 0]) 3 (by kernel_rfl) (by kernel_rfl) (by kernel_rfl) ?_
        refine Rk.appendN hcl (ty := 36) (es := 8) (m := 1) (st := 1) (ty' := 36) (cs := [AV.int IntKind.i64 3, AV.int IntKind.i64 0, AV.int IntKind.i64 0, AV.str [], AV.str [], AV.sl 8 (cl + 2) 0 2,
      AV.int IntKind.i64 0, AV.int IntKind.i64 0]) (cs' := [AV.int IntKind.i64 3, AV.int IntKind.i64 0, AV.int IntKind.i64 0, AV.str [], AV.str [], AV.sl 8 (cl + 2) 0 2,
      AV.int IntKind.i64 0, AV.int IntKind.i64 0]) (new := [[AV.int IntKind.i64 3, AV.int IntKind.i64 0, AV.int IntKind.i64 0, AV.str [], AV.str [], AV.sl 8 (cl + 2) 0 2,
        AV.int IntKind.i64 0, AV.int IntKind.i64 0]]) (H := C) (L := [Blk.cells 1 76 [AV.int IntKind.i64 kd, AV.int IntKind.i64 nn, AV.str s, AV.bool j, AV.lst (Br.avs t)],
      Blk.cells 1 36
        [AV.int IntKind.i64 3, AV.int IntKind.i64 0, AV.int IntKind.i64 0, AV.str [], AV.str [], AV.sl 8 (cl + 2) 0 2,
          AV.int IntKind.i64 0, AV.int IntKind.i64 0],
      Blk.cells 1 36
        [AV.int IntKind.i64 1, AV.int IntKind.i64 kd, AV.int IntKind.i64 nn, AV.str s, AV.str [], AV.lst [],
          AV.int IntKind.i64 0, AV.int IntKind.i64 0, AV.int IntKind.i64 5, AV.int IntKind.i64 0, AV.int IntKind.i64 0,
          AV.str [], AV.str [], AV.lst (Br.nds t), AV.int IntKind.i64 0, AV.int IntKind.i64 0],
      Blk.cells 1 36
        [AV.int IntKind.i64 3, AV.int IntKind.i64 0, AV.int IntKind.i64 0, AV.str [], AV.str [], AV.sl 8 (cl + 2) 0 2,
          AV.int IntKind.i64 0, AV.int IntKind.i64 0]]) 4 3 (by kernel_rfl) (by kernel_rfl) (by kernel_rfl) (by kernel_rfl) (by kernel_rfl) (by kernel_rfl) (by kernel_rfl) (by kernel_rfl) ?_
        refine Rk.adv 1 (by kernel_rfl) ?_
        refine Rk.storeE hcl hb7 (L := [Blk.cells 1 76 [AV.int IntKind.i64 kd, AV.int IntKind.i64 nn, AV.str s, AV.bool j, AV.lst (Br.avs t)],
      Blk.cells 1 36
        [AV.int IntKind.i64 3, AV.int IntKind.i64 0, AV.int IntKind.i64 0, AV.str [], AV.str [], AV.sl 8 (cl + 2) 0 2,
          AV.int IntKind.i64 0, AV.int IntKind.i64 0],
      Blk.cells 1 36
        [AV.int IntKind.i64 1, AV.int IntKind.i64 kd, AV.int IntKind.i64 nn, AV.str s, AV.str [], AV.lst [],
          AV.int IntKind.i64 0, AV.int IntKind.i64 0, AV.int IntKind.i64 5, AV.int IntKind.i64 0, AV.int IntKind.i64 0,
          AV.str [], AV.str [], AV.lst (Br.nds t), AV.int IntKind.i64 0, AV.int IntKind.i64 0],
      Blk.cells 1 36
        [AV.int IntKind.i64 3, AV.int IntKind.i64 0, AV.int IntKind.i64 0, AV.str [], AV.str [], AV.sl 8 (cl + 2) 0 2,
          AV.int IntKind.i64 0, AV.int IntKind.i64 0],
      Blk.cells 1 36
        [AV.int IntKind.i64 3, AV.int IntKind.i64 0, AV.int IntKind.i64 0, AV.str [], AV.str [], AV.sl 8 (cl + 2) 0 2,
          AV.int IntKind.i64 0, AV.int IntKind.i64 0]]) (n := 1) (o := 5) (v := AV.sl 8 (cl + 4) 0 1) ([AV.int IntKind.i64 4, AV.int IntKind.i64 0, AV.int IntKind.i64 0, AV.str [], AV.str [], AV.sl 8 (cl + 4) 0 1,
      AV.int IntKind.i64 0, AV.int IntKind.i64 0]) (by kernel_rfl) (by kernel_rfl) (by kernel_rfl) (by kernel_rfl) fun G2 hl2 he2 hb2 ho2 => ?_
        refine Rk.adv 6 (by kernel_rfl) ?_
        -- LOOP
        refine Rk.inc p32 0 (by kernel_rfl) (by omega) ?_
        refine Rk.kn F61 [.code c61_17] (G2 ++
          [Blk.cells 1 76 [AV.int IntKind.i64 kd, AV.int IntKind.i64 nn, AV.str s, AV.bool j, AV.lst (Br.avs t)],
            Blk.cells 1 36
              [AV.int IntKind.i64 3, AV.int IntKind.i64 0, AV.int IntKind.i64 0, AV.str [], AV.str [], AV.sl 8 (cl + 2) 0 2,
                AV.int IntKind.i64 0, AV.int IntKind.i64 0],
            Blk.cells 1 36
              [AV.int IntKind.i64 1, AV.int IntKind.i64 kd, AV.int IntKind.i64 nn, AV.str s, AV.str [], AV.lst [],
                AV.int IntKind.i64 0, AV.int IntKind.i64 0, AV.int IntKind.i64 5, AV.int IntKind.i64 0, AV.int IntKind.i64 0,
                AV.str [], AV.str [], AV.lst (Br.nds t), AV.int IntKind.i64 0, AV.int IntKind.i64 0],
            Blk.cells 1 36
              [AV.int IntKind.i64 3, AV.int IntKind.i64 0, AV.int IntKind.i64 0, AV.str [], AV.str [], AV.sl 8 (cl + 2) 0 2,
                AV.int IntKind.i64 0, AV.int IntKind.i64 0],
            Blk.cells 1 36
              [AV.int IntKind.i64 3, AV.int IntKind.i64 0, AV.int IntKind.i64 0, AV.str [], AV.str [], AV.sl 8 (cl + 2) 0 2,
                AV.int IntKind.i64 0, AV.int IntKind.i64 0]]) [(p32, .int .i64 (Int.ofNat (0 + 1))), (p30, .lst (Lf.avs ls)), (p31, .int .i64 (Int.ofNat (Lf.avs ls).length)), (p2, .ptr 0 0), (p3, .ptr 1 0), (p6, .ptr b6 0), (p7, .ptr b7 0), (p12, .lst (Br.avs ts)), (p13, .int .i64 (Int.ofNat (Br.avs ts).length)), (p14, .int .i64 (Int.ofNat i))] [] (by kernel_rfl) (by kernel_rfl) (by kernel_rfl) (by kernel_rfl) (by kernel_rfl) (by kernel_rfl) ?_
        intro f1 hk1 _
        first
          | (subst h1; exact hi 1 (by omega) (by omega) f1 _ (hI.next0 (bl := cl + 4) hx (by simp only [List.length_append, hl2, hcl]; omega) (fun c k hc e => at_elder ((ho2 c hc).trans e)) (at_elder hb2) (by omega) ((at_endn hl2).trans rfl) rfl (fzl_in (b := cl + 2) ((at_endn hl2).trans rfl) (by omega))) hk1)
          | (subst h1; exact hi 1 (by omega) (by omega) f1 _ (hI.next0 (bl := cl + 3) hx (by simp only [List.length_append, hl2, hcl]; omega) (fun c k hc e => at_elder ((ho2 c hc).trans e)) (at_elder hb2) (by omega) ((at_endn hl2).trans rfl) rfl (fun _ _ => rfl)) hk1)
      · refine Rk.adv 4 (by kernel_rfl) ?_
        refine Rk.loadE hb7 (L := [Blk.cells 1 76 [AV.int IntKind.i64 kd, AV.int IntKind.i64 nn, AV.str s, AV.bool j, AV.lst (Br.avs t)],
      Blk.cells 1 36
        [AV.int IntKind.i64 1, AV.int IntKind.i64 kd, AV.int IntKind.i64 nn, AV.str s, AV.str [], AV.lst [],
          AV.int IntKind.i64 0, AV.int IntKind.i64 0]]) (n := 1) (ag := false) (o := 5) (v := AV.nils) (by kernel_rfl) (by kernel_rfl) (by kernel_rfl) ?_
        refine Rk.load hcl (H := C) (L := [Blk.cells 1 76 [AV.int IntKind.i64 kd, AV.int IntKind.i64 nn, AV.str s, AV.bool j, AV.lst (Br.avs t)],
      Blk.cells 1 36
        [AV.int IntKind.i64 1, AV.int IntKind.i64 kd, AV.int IntKind.i64 nn, AV.str s, AV.str [], AV.lst [],
          AV.int IntKind.i64 0, AV.int IntKind.i64 0]]) (n := 8) (ag := true) (j := 1) (o := 0) (st := 1) (ty := 36) (cs := [AV.int IntKind.i64 1, AV.int IntKind.i64 kd, AV.int IntKind.i64 nn, AV.str s, AV.str [], AV.lst [],
      AV.int IntKind.i64 0, AV.int IntKind.i64 0]) (v := AV.agg
      [AV.int IntKind.i64 1, AV.int IntKind.i64 kd, AV.int IntKind.i64 nn, AV.str s, AV.str [], AV.lst [],
        AV.int IntKind.i64 0, AV.int IntKind.i64 0]) (by kernel_rfl) (by kernel_rfl) (by kernel_rfl) (by kernel_rfl) ?_
        refine Rk.bslice hcl (H := C) (L := [Blk.cells 1 76 [AV.int IntKind.i64 kd, AV.int IntKind.i64 nn, AV.str s, AV.bool j, AV.lst (Br.avs t)],
      Blk.cells 1 36
        [AV.int IntKind.i64 1, AV.int IntKind.i64 kd, AV.int IntKind.i64 nn, AV.str s, AV.str [], AV.lst [],
          AV.int IntKind.i64 0, AV.int IntKind.i64 0]]) (ty := 36) (es := 8) (len := 0) (cs := [AV.int IntKind.i64 1, AV.int IntKind.i64 kd, AV.int IntKind.i64 nn, AV.str s, AV.str [], AV.lst [],
      AV.int IntKind.i64 0, AV.int IntKind.i64 0]) 2 (by kernel_rfl) (by kernel_rfl) (by kernel_rfl) ?_
        refine Rk.appendN hcl (ty := 36) (es := 8) (m := 1) (st := 1) (ty' := 36) (cs := [AV.int IntKind.i64 1, AV.int IntKind.i64 kd, AV.int IntKind.i64 nn, AV.str s, AV.str [], AV.lst [],
      AV.int IntKind.i64 0, AV.int IntKind.i64 0]) (cs' := [AV.int IntKind.i64 1, AV.int IntKind.i64 kd, AV.int IntKind.i64 nn, AV.str s, AV.str [], AV.lst [],
      AV.int IntKind.i64 0, AV.int IntKind.i64 0]) (new := [[AV.int IntKind.i64 1, AV.int IntKind.i64 kd, AV.int IntKind.i64 nn, AV.str s, AV.str [], AV.lst [],
        AV.int IntKind.i64 0, AV.int IntKind.i64 0]]) (H := C) (L := [Blk.cells 1 76 [AV.int IntKind.i64 kd, AV.int IntKind.i64 nn, AV.str s, AV.bool j, AV.lst (Br.avs t)],
      Blk.cells 1 36
        [AV.int IntKind.i64 1, AV.int IntKind.i64 kd, AV.int IntKind.i64 nn, AV.str s, AV.str [], AV.lst [],
          AV.int IntKind.i64 0, AV.int IntKind.i64 0],
      Blk.cells 1 36
        [AV.int IntKind.i64 1, AV.int IntKind.i64 kd, AV.int IntKind.i64 nn, AV.str s, AV.str [], AV.lst [],
          AV.int IntKind.i64 0, AV.int IntKind.i64 0]]) 3 2 (by kernel_rfl) (by kernel_rfl) (by kernel_rfl) (by kernel_rfl) (by kernel_rfl) (by kernel_rfl) (by kernel_rfl) (by kernel_rfl) ?_
        refine Rk.adv 1 (by kernel_rfl) ?_
        refine Rk.storeE hcl hb7 (L := [Blk.cells 1 76 [AV.int IntKind.i64 kd, AV.int IntKind.i64 nn, AV.str s, AV.bool j, AV.lst (Br.avs t)],
      Blk.cells 1 36
        [AV.int IntKind.i64 1, AV.int IntKind.i64 kd, AV.int IntKind.i64 nn, AV.str s, AV.str [], AV.lst [],
          AV.int IntKind.i64 0, AV.int IntKind.i64 0],
      Blk.cells 1 36
        [AV.int IntKind.i64 1, AV.int IntKind.i64 kd, AV.int IntKind.i64 nn, AV.str s, AV.str [], AV.lst [],
          AV.int IntKind.i64 0, AV.int IntKind.i64 0],
      Blk.cells 1 36
        [AV.int IntKind.i64 1, AV.int IntKind.i64 kd, AV.int IntKind.i64 nn, AV.str s, AV.str [], AV.lst [],
          AV.int IntKind.i64 0, AV.int IntKind.i64 0]]) (n := 1) (o := 5) (v := AV.sl 8 (cl + 3) 0 1) ([AV.int IntKind.i64 4, AV.int IntKind.i64 0, AV.int IntKind.i64 0, AV.str [], AV.str [], AV.sl 8 (cl + 3) 0 1,
      AV.int IntKind.i64 0, AV.int IntKind.i64 0]) (by kernel_rfl) (by kernel_rfl) (by kernel_rfl) (by kernel_rfl) fun G2 hl2 he2 hb2 ho2 => ?_
        refine Rk.adv 6 (by kernel_rfl) ?_
        -- LOOP
        refine Rk.inc p32 0 (by kernel_rfl) (by omega) ?_
        refine Rk.kn F61 [.code c61_17] (G2 ++
          [Blk.cells 1 76 [AV.int IntKind.i64 kd, AV.int IntKind.i64 nn, AV.str s, AV.bool j, AV.lst (Br.avs t)],
            Blk.cells 1 36
              [AV.int IntKind.i64 1, AV.int IntKind.i64 kd, AV.int IntKind.i64 nn, AV.str s, AV.str [], AV.lst [],
                AV.int IntKind.i64 0, AV.int IntKind.i64 0],
            Blk.cells 1 36
              [AV.int IntKind.i64 1, AV.int IntKind.i64 kd, AV.int IntKind.i64 nn, AV.str s, AV.str [], AV.lst [],
                AV.int IntKind.i64 0, AV.int IntKind.i64 0],
            Blk.cells 1 36
              [AV.int IntKind.i64 1, AV.int IntKind.i64 kd, AV.int IntKind.i64 nn, AV.str s, AV.str [], AV.lst [],
                AV.int IntKind.i64 0, AV.int IntKind.i64 0]]) [(p32, .int .i64 (Int.ofNat (0 + 1))), (p30, .lst (Lf.avs ls)), (p31, .int .i64 (Int.ofNat (Lf.avs ls).length)), (p2, .ptr 0 0), (p3, .ptr 1 0), (p6, .ptr b6 0), (p7, .ptr b7 0), (p12, .lst (Br.avs ts)), (p13, .int .i64 (Int.ofNat (Br.avs ts).length)), (p14, .int .i64 (Int.ofNat i))] [] (by kernel_rfl) (by kernel_rfl) (by kernel_rfl) (by kernel_rfl) (by kernel_rfl) (by kernel_rfl) ?_
        intro f1 hk1 _
        first
          | (subst h1; exact hi 1 (by omega) (by omega) f1 _ (hI.next0 (bl := cl + 4) hx (by simp only [List.length_append, hl2, hcl]; omega) (fun c k hc e => at_elder ((ho2 c hc).trans e)) (at_elder hb2) (by omega) ((at_endn hl2).trans rfl) rfl (fzl_in (b := cl + 2) ((at_endn hl2).trans rfl) (by omega))) hk1)
          | (subst h1; exact hi 1 (by omega) (by omega) f1 _ (hI.next0 (bl := cl + 3) hx (by simp only [List.length_append, hl2, hcl]; omega) (fun c k hc e => at_elder ((ho2 c hc).trans e)) (at_elder hb2) (by omega) ((at_endn hl2).trans rfl) rfl (fun _ _ => rfl)) hk1)
    · have hmx : k + 1 ≤ mxLen := by unfold mxLen; omega
      have hne : b7 ≠ bl := by omega
      refine Rk.adv 6 (by kernel_rfl) ?_
      refine Rk.know p33 (decide (Int.ofNat k < Int.ofNat (List.length (Lf.avs ls)))) true (by kernel_rfl) hlt ?_
      refine Rk.adv 6 (by kernel_rfl) ?_
      refine Rk.iaddr (l := Lf.avs ls) (n := k) (c := [AV.int IntKind.i64 kd, AV.int IntKind.i64 nn, AV.str s, AV.bool j, AV.lst (Br.avs t)]) (es := 5) (by kernel_rfl) hl (by kernel_rfl) ?_
      refine Rk.adv 1 (by kernel_rfl) ?_
      refine Rk.alloc hcl (H := C) (L := []) (ty := 76) (z := [AV.int IntKind.i64 0, AV.int IntKind.i64 0, AV.str [], AV.bool false, AV.nils]) 0 (by kernel_rfl) (by kernel_rfl) (by kernel_rfl) ?_
      refine Rk.store hcl (H := C) (L := [Blk.cells 1 76 [AV.int IntKind.i64 0, AV.int IntKind.i64 0, AV.str [], AV.bool false, AV.nils]]) (n := 5) (j := 0) (o := 0) (ty := 76) (cs := [AV.int IntKind.i64 0, AV.int IntKind.i64 0, AV.str [], AV.bool false, AV.nils]) (v := AV.agg [AV.int IntKind.i64 kd, AV.int IntKind.i64 nn, AV.str s, AV.bool j, AV.lst (Br.avs t)]) (by kernel_rfl) (by kernel_rfl) (by kernel_rfl) (by kernel_rfl) ?_
      refine Rk.adv 4 (by kernel_rfl) ?_
      refine Rk.load hcl (H := C) (L := [Blk.cells 1 76 [AV.int IntKind.i64 kd, AV.int IntKind.i64 nn, AV.str s, AV.bool j, AV.lst (Br.avs t)]]) (n := 3) (ag := true) (j := 0) (o := 0) (st := 1) (ty := 76) (cs := [AV.int IntKind.i64 kd, AV.int IntKind.i64 nn, AV.str s, AV.bool j, AV.lst (Br.avs t)]) (v := AV.agg [AV.int IntKind.i64 kd, AV.int IntKind.i64 nn, AV.str s]) (by kernel_rfl) (by kernel_rfl) (by kernel_rfl) (by kernel_rfl) ?_
      refine Rk.callH (H := C ++ [Blk.cells 1 76 [AV.int IntKind.i64 kd, AV.int IntKind.i64 nn, AV.str s, AV.bool j, AV.lst (Br.avs t)]]) (hH := by kernel_rfl) (as := [AV.agg [AV.int IntKind.i64 kd, AV.int IntKind.i64 nn, AV.str s]]) (by kernel_rfl) (hc _) ?_
      refine Rk.alloc hcl (H := C) (L := [Blk.cells 1 76 [AV.int IntKind.i64 kd, AV.int IntKind.i64 nn, AV.str s, AV.bool j, AV.lst (Br.avs t)]]) (ty := 36) (z := [AV.int IntKind.i64 0, AV.int IntKind.i64 0, AV.int IntKind.i64 0, AV.str [], AV.str [], AV.nils, AV.int IntKind.i64 0,
      AV.int IntKind.i64 0]) 1 (by kernel_rfl) (by kernel_rfl) (by kernel_rfl) ?_
      refine Rk.store hcl (H := C) (L := [Blk.cells 1 76 [AV.int IntKind.i64 kd, AV.int IntKind.i64 nn, AV.str s, AV.bool j, AV.lst (Br.avs t)],
      Blk.cells 1 36
        [AV.int IntKind.i64 0, AV.int IntKind.i64 0, AV.int IntKind.i64 0, AV.str [], AV.str [], AV.nils,
          AV.int IntKind.i64 0, AV.int IntKind.i64 0]]) (n := 8) (j := 1) (o := 0) (ty := 36) (cs := [AV.int IntKind.i64 0, AV.int IntKind.i64 0, AV.int IntKind.i64 0, AV.str [], AV.str [], AV.nils, AV.int IntKind.i64 0,
      AV.int IntKind.i64 0]) (v := AV.agg
      [AV.int IntKind.i64 1, AV.int IntKind.i64 kd, AV.int IntKind.i64 nn, AV.str s, AV.str [], AV.lst [],
        AV.int IntKind.i64 0, AV.int IntKind.i64 0]) (by kernel_rfl) (by kernel_rfl) (by kernel_rfl) (by kernel_rfl) ?_
      refine Rk.adv 5 (by kernel_rfl) ?_
      refine Rk.load hcl (H := C) (L := [Blk.cells 1 76 [AV.int IntKind.i64 kd, AV.int IntKind.i64 nn, AV.str s, AV.bool j, AV.lst (Br.avs t)],
      Blk.cells 1 36
        [AV.int IntKind.i64 1, AV.int IntKind.i64 kd, AV.int IntKind.i64 nn, AV.str s, AV.str [], AV.lst [],
          AV.int IntKind.i64 0, AV.int IntKind.i64 0]]) (n := 1) (ag := false) (j := 0) (o := 3) (st := 1) (ty := 76) (cs := [AV.int IntKind.i64 kd, AV.int IntKind.i64 nn, AV.str s, AV.bool j, AV.lst (Br.avs t)]) (v := AV.bool j) (by kernel_rfl) (by kernel_rfl) (by kernel_rfl) (by kernel_rfl) ?_
      refine Rk.adv 1 (by kernel_rfl) ?_
      refine Rk.split p40 (j) (by kernel_rfl) (fun h1 => ?_) (fun h1 => ?_)
      · refine Rk.adv 2 (by kernel_rfl) ?_
        refine Rk.load hcl (H := C) (L := [Blk.cells 1 76 [AV.int IntKind.i64 kd, AV.int IntKind.i64 nn, AV.str s, AV.bool j, AV.lst (Br.avs t)],
      Blk.cells 1 36
        [AV.int IntKind.i64 1, AV.int IntKind.i64 kd, AV.int IntKind.i64 nn, AV.str s, AV.str [], AV.lst [],
          AV.int IntKind.i64 0, AV.int IntKind.i64 0]]) (n := 8) (ag := true) (j := 1) (o := 0) (st := 1) (ty := 36) (cs := [AV.int IntKind.i64 1, AV.int IntKind.i64 kd, AV.int IntKind.i64 nn, AV.str s, AV.str [], AV.lst [],
      AV.int IntKind.i64 0, AV.int IntKind.i64 0]) (v := AV.agg
      [AV.int IntKind.i64 1, AV.int IntKind.i64 kd, AV.int IntKind.i64 nn, AV.str s, AV.str [], AV.lst [],
        AV.int IntKind.i64 0, AV.int IntKind.i64 0]) (by kernel_rfl) (by kernel_rfl) (by kernel_rfl) (by kernel_rfl) ?_
        refine Rk.adv 1 (by kernel_rfl) ?_
        refine Rk.load hcl (H := C) (L := [Blk.cells 1 76 [AV.int IntKind.i64 kd, AV.int IntKind.i64 nn, AV.str s, AV.bool j, AV.lst (Br.avs t)],
      Blk.cells 1 36
        [AV.int IntKind.i64 1, AV.int IntKind.i64 kd, AV.int IntKind.i64 nn, AV.str s, AV.str [], AV.lst [],
          AV.int IntKind.i64 0, AV.int IntKind.i64 0]]) (n := 1) (ag := false) (j := 0) (o := 4) (st := 1) (ty := 76) (cs := [AV.int IntKind.i64 kd, AV.int IntKind.i64 nn, AV.str s, AV.bool j, AV.lst (Br.avs t)]) (v := AV.lst (Br.avs t)) (by kernel_rfl) (by kernel_rfl) (by kernel_rfl) (by kernel_rfl) ?_
        refine Rk.callH (H := C ++
      [Blk.cells 1 76 [AV.int IntKind.i64 kd, AV.int IntKind.i64 nn, AV.str s, AV.bool j, AV.lst (Br.avs t)],
        Blk.cells 1 36
          [AV.int IntKind.i64 1, AV.int IntKind.i64 kd, AV.int IntKind.i64 nn, AV.str s, AV.str [], AV.lst [],
            AV.int IntKind.i64 0, AV.int IntKind.i64 0]]) (hH := by kernel_rfl) (as := [AV.lst (Br.avs t)]) (by kernel_rfl) (hrec h1 _) ?_
        refine Rk.bslice hcl (H := C) (L := [Blk.cells 1 76 [AV.int IntKind.i64 kd, AV.int IntKind.i64 nn, AV.str s, AV.bool j, AV.lst (Br.avs t)],
      Blk.cells 1 36
        [AV.int IntKind.i64 1, AV.int IntKind.i64 kd, AV.int IntKind.i64 nn, AV.str s, AV.str [], AV.lst [],
          AV.int IntKind.i64 0, AV.int IntKind.i64 0]]) (ty := 36) (es := 8) (len := 1) (cs := [AV.int IntKind.i64 1, AV.int IntKind.i64 kd, AV.int IntKind.i64 nn, AV.str s, AV.str [], AV.lst [],
      AV.int IntKind.i64 0, AV.int IntKind.i64 0, AV.int IntKind.i64 5, AV.int IntKind.i64 0, AV.int IntKind.i64 0,
      AV.str [], AV.str [], AV.lst (Br.nds t), AV.int IntKind.i64 0, AV.int IntKind.i64 0]) 2 (by kernel_rfl) (by kernel_rfl) (by kernel_rfl) ?_
        refine Rk.adv 1 (by kernel_rfl) ?_
        refine Rk.store hcl (H := C) (L := [Blk.cells 1 76 [AV.int IntKind.i64 kd, AV.int IntKind.i64 nn, AV.str s, AV.bool j, AV.lst (Br.avs t)],
      Blk.cells 1 36
        [AV.int IntKind.i64 1, AV.int IntKind.i64 kd, AV.int IntKind.i64 nn, AV.str s, AV.str [], AV.lst [],
          AV.int IntKind.i64 0, AV.int IntKind.i64 0],
      Blk.cells 1 36
        [AV.int IntKind.i64 1, AV.int IntKind.i64 kd, AV.int IntKind.i64 nn, AV.str s, AV.str [], AV.lst [],
          AV.int IntKind.i64 0, AV.int IntKind.i64 0, AV.int IntKind.i64 5, AV.int IntKind.i64 0, AV.int IntKind.i64 0,
          AV.str [], AV.str [], AV.lst (Br.nds t), AV.int IntKind.i64 0, AV.int IntKind.i64 0]]) (n := 8) (j := 1) (o := 0) (ty := 36) (cs := [AV.int IntKind.i64 1, AV.int IntKind.i64 kd, AV.int IntKind.i64 nn, AV.str s, AV.str [], AV.lst [],
      AV.int IntKind.i64 0, AV.int IntKind.i64 0]) (v := AV.agg
      [AV.int IntKind.i64 3, AV.int IntKind.i64 0, AV.int IntKind.i64 0, AV.str [], AV.str [], AV.sl 8 (cl + 2) 0 2,
        AV.int IntKind.i64 0, AV.int IntKind.i64 0]) (by kernel_rfl) (by kernel_rfl) (by kernel_rfl) (by kernel_rfl) ?_
        refine Rk.adv 3 (by kernel_rfl) ?_
        refine Rk.loadE hb7 (L := [Blk.cells 1 76 [AV.int IntKind.i64 kd, AV.int IntKind.i64 nn, AV.str s, AV.bool j, AV.lst (Br.avs t)],
      Blk.cells 1 36
        [AV.int IntKind.i64 3, AV.int IntKind.i64 0, AV.int IntKind.i64 0, AV.str [], AV.str [], AV.sl 8 (cl + 2) 0 2,
          AV.int IntKind.i64 0, AV.int IntKind.i64 0],
      Blk.cells 1 36
        [AV.int IntKind.i64 1, AV.int IntKind.i64 kd, AV.int IntKind.i64 nn, AV.str s, AV.str [], AV.lst [],
          AV.int IntKind.i64 0, AV.int IntKind.i64 0, AV.int IntKind.i64 5, AV.int IntKind.i64 0, AV.int IntKind.i64 0,
          AV.str [], AV.str [], AV.lst (Br.nds t), AV.int IntKind.i64 0, AV.int IntKind.i64 0]]) (n := 1) (ag := false) (o := 5) (v := AV.sl 8 bl 0 k) (by kernel_rfl) (by kernel_rfl) (by kernel_rfl) ?_
        refine Rk.load hcl (H := C) (L := [Blk.cells 1 76 [AV.int IntKind.i64 kd, AV.int IntKind.i64 nn, AV.str s, AV.bool j, AV.lst (Br.avs t)],
      Blk.cells 1 36
        [AV.int IntKind.i64 3, AV.int IntKind.i64 0, AV.int IntKind.i64 0, AV.str [], AV.str [], AV.sl 8 (cl + 2) 0 2,
          AV.int IntKind.i64 0, AV.int IntKind.i64 0],
      Blk.cells 1 36
        [AV.int IntKind.i64 1, AV.int IntKind.i64 kd, AV.int IntKind.i64 nn, AV.str s, AV.str [], AV.lst [],
          AV.int IntKind.i64 0, AV.int IntKind.i64 0, AV.int IntKind.i64 5, AV.int IntKind.i64 0, AV.int IntKind.i64 0,
          AV.str [], AV.str [], AV.lst (Br.nds t), AV.int IntKind.i64 0, AV.int IntKind.i64 0]]) (n := 8) (ag := true) (j := 1) (o := 0) (st := 1) (ty := 36) (cs := [AV.int IntKind.i64 3, AV.int IntKind.i64 0, AV.int IntKind.i64 0, AV.str [], AV.str [], AV.sl 8 (cl + 2) 0 2,
      AV.int IntKind.i64 0, AV.int IntKind.i64 0]) (v := AV.agg
      [AV.int IntKind.i64 3, AV.int IntKind.i64 0, AV.int IntKind.i64 0, AV.str [], AV.str [], AV.sl 8 (cl + 2) 0 2,
        AV.int IntKind.i64 0, AV.int IntKind.i64 0]) (by kernel_rfl) (by kernel_rfl) (by kernel_rfl) (by kernel_rfl) ?_
        refine Rk.bslice hcl (H := C) (L := [Blk.cells 1 76 [AV.int IntKind.i64 kd, AV.int IntKind.i64 nn, AV.str s, AV.bool j, AV.lst (Br.avs t)],
      Blk.cells 1 36
        [AV.int IntKind.i64 3, AV.int IntKind.i64 0, AV.int IntKind.i64 0, AV.str [], AV.str [], AV.sl 8 (cl + 2) 0 2,
          AV.int IntKind.i64 0, AV.int IntKind.i64 0],
      Blk.cells 1 36
        [AV.int IntKind.i64 1, AV.int IntKind.i64 kd, AV.int IntKind.i64 nn, AV.str s, AV.str [], AV.lst [],
          AV.int IntKind.i64 0, AV.int IntKind.i64 0, AV.int IntKind.i64 5, AV.int IntKind.i64 0, AV.int IntKind.i64 0,
          AV.str [], AV.str [], AV.lst (Br.nds t), AV.int IntKind.i64 0, AV.int IntKind.i64 0]]) (ty := 36) (es := 8) (len := 0) (cs := [AV.int IntKind.i64 3, AV.int IntKind.i64 0, AV.int IntKind.i64 0, AV.str [], AV.str [], AV.sl 8 (cl + 2) 0 2,
      AV.int IntKind.i64 0, AV.int IntKind.i64 0]) 3 (by kernel_rfl) (by kernel_rfl) (by kernel_rfl) ?_
        refine Rk.appendE hcl hbb hcs (ty := 36) (es := 8) (m := 1) (st := 1) (ty' := 36) (cs := [AV.int IntKind.i64 3, AV.int IntKind.i64 0, AV.int IntKind.i64 0, AV.str [], AV.str [], AV.sl 8 (cl + 2) 0 2,
      AV.int IntKind.i64 0, AV.int IntKind.i64 0]) (cs' := [AV.int IntKind.i64 3, AV.int IntKind.i64 0, AV.int IntKind.i64 0, AV.str [], AV.str [], AV.sl 8 (cl + 2) 0 2,
      AV.int IntKind.i64 0, AV.int IntKind.i64 0]) (new := [[AV.int IntKind.i64 3, AV.int IntKind.i64 0, AV.int IntKind.i64 0, AV.str [], AV.str [], AV.sl 8 (cl + 2) 0 2,
        AV.int IntKind.i64 0, AV.int IntKind.i64 0]]) (H := C) (L := [Blk.cells 1 76 [AV.int IntKind.i64 kd, AV.int IntKind.i64 nn, AV.str s, AV.bool j, AV.lst (Br.avs t)],
      Blk.cells 1 36
        [AV.int IntKind.i64 3, AV.int IntKind.i64 0, AV.int IntKind.i64 0, AV.str [], AV.str [], AV.sl 8 (cl + 2) 0 2,
          AV.int IntKind.i64 0, AV.int IntKind.i64 0],
      Blk.cells 1 36
        [AV.int IntKind.i64 1, AV.int IntKind.i64 kd, AV.int IntKind.i64 nn, AV.str s, AV.str [], AV.lst [],
          AV.int IntKind.i64 0, AV.int IntKind.i64 0, AV.int IntKind.i64 5, AV.int IntKind.i64 0, AV.int IntKind.i64 0,
          AV.str [], AV.str [], AV.lst (Br.nds t), AV.int IntKind.i64 0, AV.int IntKind.i64 0],
      Blk.cells 1 36
        [AV.int IntKind.i64 3, AV.int IntKind.i64 0, AV.int IntKind.i64 0, AV.str [], AV.str [], AV.sl 8 (cl + 2) 0 2,
          AV.int IntKind.i64 0, AV.int IntKind.i64 0]]) hmx 4 3 (by kernel_rfl) (by kernel_rfl) (by kernel_rfl) (by kernel_rfl) (by kernel_rfl) (by kernel_rfl) (by kernel_rfl) (by kernel_rfl) fun G2 hl2 ho2 => ?_
        have hb72 := (ho2 _ hne).trans hb7
        refine Rk.adv 1 (by kernel_rfl) ?_
        refine Rk.storeE hl2 hb72 (L := [Blk.cells 1 76 [AV.int IntKind.i64 kd, AV.int IntKind.i64 nn, AV.str s, AV.bool j, AV.lst (Br.avs t)],
      Blk.cells 1 36
        [AV.int IntKind.i64 3, AV.int IntKind.i64 0, AV.int IntKind.i64 0, AV.str [], AV.str [], AV.sl 8 (cl + 2) 0 2,
          AV.int IntKind.i64 0, AV.int IntKind.i64 0],
      Blk.cells 1 36
        [AV.int IntKind.i64 1, AV.int IntKind.i64 kd, AV.int IntKind.i64 nn, AV.str s, AV.str [], AV.lst [],
          AV.int IntKind.i64 0, AV.int IntKind.i64 0, AV.int IntKind.i64 5, AV.int IntKind.i64 0, AV.int IntKind.i64 0,
          AV.str [], AV.str [], AV.lst (Br.nds t), AV.int IntKind.i64 0, AV.int IntKind.i64 0],
      Blk.cells 1 36
        [AV.int IntKind.i64 3, AV.int IntKind.i64 0, AV.int IntKind.i64 0, AV.str [], AV.str [], AV.sl 8 (cl + 2) 0 2,
          AV.int IntKind.i64 0, AV.int IntKind.i64 0],
      Blk.cells 1 36
        (cs ++
          [AV.int IntKind.i64 3, AV.int IntKind.i64 0, AV.int IntKind.i64 0, AV.str [], AV.str [], AV.sl 8 (cl + 2) 0 2,
            AV.int IntKind.i64 0, AV.int IntKind.i64 0])]) (n := 1) (o := 5) (v := AV.sl 8 (cl + 4) 0 (k + 1)) ([AV.int IntKind.i64 4, AV.int IntKind.i64 0, AV.int IntKind.i64 0, AV.str [], AV.str [], AV.sl 8 (cl + 4) 0 (k + 1),
      AV.int IntKind.i64 0, AV.int IntKind.i64 0]) (by kernel_rfl) (by kernel_rfl) (by kernel_rfl) (by kernel_rfl) fun G3 hl3 he3 hb3 ho3 => ?_
        refine Rk.adv 6 (by kernel_rfl) ?_
        -- LOOP
        refine Rk.inc p32 k (by kernel_rfl) (by omega) ?_
        refine Rk.kn F61 [.code c61_17] (G3 ++
          [Blk.cells 1 76 [AV.int IntKind.i64 kd, AV.int IntKind.i64 nn, AV.str s, AV.bool j, AV.lst (Br.avs t)],
            Blk.cells 1 36
              [AV.int IntKind.i64 3, AV.int IntKind.i64 0, AV.int IntKind.i64 0, AV.str [], AV.str [], AV.sl 8 (cl + 2) 0 2,
                AV.int IntKind.i64 0, AV.int IntKind.i64 0],
            Blk.cells 1 36
              [AV.int IntKind.i64 1, AV.int IntKind.i64 kd, AV.int IntKind.i64 nn, AV.str s, AV.str [], AV.lst [],
                AV.int IntKind.i64 0, AV.int IntKind.i64 0, AV.int IntKind.i64 5, AV.int IntKind.i64 0, AV.int IntKind.i64 0,
                AV.str [], AV.str [], AV.lst (Br.nds t), AV.int IntKind.i64 0, AV.int IntKind.i64 0],
            Blk.cells 1 36
              [AV.int IntKind.i64 3, AV.int IntKind.i64 0, AV.int IntKind.i64 0, AV.str [], AV.str [], AV.sl 8 (cl + 2) 0 2,
                AV.int IntKind.i64 0, AV.int IntKind.i64 0],
            Blk.cells 1 36
              (cs ++
                [AV.int IntKind.i64 3, AV.int IntKind.i64 0, AV.int IntKind.i64 0, AV.str [], AV.str [], AV.sl 8 (cl + 2) 0 2,
                  AV.int IntKind.i64 0, AV.int IntKind.i64 0])]) [(p32, .int .i64 (Int.ofNat (k + 1))), (p30, .lst (Lf.avs ls)), (p31, .int .i64 (Int.ofNat (Lf.avs ls).length)), (p2, .ptr 0 0), (p3, .ptr 1 0), (p6, .ptr b6 0), (p7, .ptr b7 0), (p12, .lst (Br.avs ts)), (p13, .int .i64 (Int.ofNat (Br.avs ts).length)), (p14, .int .i64 (Int.ofNat i))] [] (by kernel_rfl) (by kernel_rfl) (by kernel_rfl) (by kernel_rfl) (by kernel_rfl) (by kernel_rfl) ?_
        intro f1 hk1 _
        first
          | (subst h1; exact hi (k + 1) (by omega) (by omega) f1 _ (In61.nextS (bl' := cl + 4) hlen hI.ag hbl hcs hfz hx h7lt (by simp only [List.length_append, hl3, hcl]; omega) (fun c k hc e => at_elder ((ho3 c (fun h => hc (.inl h))).trans ((ho2 c (fun h => hc (.inr h))).trans e))) (at_elder hb3) (by omega) ((at_endn hl3).trans rfl) rfl (fzl_in (b := cl + 2) ((at_endn hl3).trans rfl) (by omega))) hk1)
          | (subst h1; exact hi (k + 1) (by omega) (by omega) f1 _ (In61.nextS (bl' := cl + 3) hlen hI.ag hbl hcs hfz hx h7lt (by simp only [List.length_append, hl3, hcl]; omega) (fun c k hc e => at_elder ((ho3 c (fun h => hc (.inl h))).trans ((ho2 c (fun h => hc (.inr h))).trans e))) (at_elder hb3) (by omega) ((at_endn hl3).trans rfl) rfl (fun _ _ => rfl)) hk1)
      · refine Rk.adv 4 (by kernel_rfl) ?_
        refine Rk.loadE hb7 (L := [Blk.cells 1 76 [AV.int IntKind.i64 kd, AV.int IntKind.i64 nn, AV.str s, AV.bool j, AV.lst (Br.avs t)],
      Blk.cells 1 36
        [AV.int IntKind.i64 1, AV.int IntKind.i64 kd, AV.int IntKind.i64 nn, AV.str s, AV.str [], AV.lst [],
          AV.int IntKind.i64 0, AV.int IntKind.i64 0]]) (n := 1) (ag := false) (o := 5) (v := AV.sl 8 bl 0 k) (by kernel_rfl) (by kernel_rfl) (by kernel_rfl) ?_
        refine Rk.load hcl (H := C) (L := [Blk.cells 1 76 [AV.int IntKind.i64 kd, AV.int IntKind.i64 nn, AV.str s, AV.bool j, AV.lst (Br.avs t)],
      Blk.cells 1 36
        [AV.int IntKind.i64 1, AV.int IntKind.i64 kd, AV.int IntKind.i64 nn, AV.str s, AV.str [], AV.lst [],
          AV.int IntKind.i64 0, AV.int IntKind.i64 0]]) (n := 8) (ag := true) (j := 1) (o := 0) (st := 1) (ty := 36) (cs := [AV.int IntKind.i64 1, AV.int IntKind.i64 kd, AV.int IntKind.i64 nn, AV.str s, AV.str [], AV.lst [],
      AV.int IntKind.i64 0, AV.int IntKind.i64 0]) (v := AV.agg
      [AV.int IntKind.i64 1, AV.int IntKind.i64 kd, AV.int IntKind.i64 nn, AV.str s, AV.str [], AV.lst [],
        AV.int IntKind.i64 0, AV.int IntKind.i64 0]) (by kernel_rfl) (by kernel_rfl) (by kernel_rfl) (by kernel_rfl) ?_
        refine Rk.bslice hcl (H := C) (L := [Blk.cells 1 76 [AV.int IntKind.i64 kd, AV.int IntKind.i64 nn, AV.str s, AV.bool j, AV.lst (Br.avs t)],
      Blk.cells 1 36
        [AV.int IntKind.i64 1, AV.int IntKind.i64 kd, AV.int IntKind.i64 nn, AV.str s, AV.str [], AV.lst [],
          AV.int IntKind.i64 0, AV.int IntKind.i64 0]]) (ty := 36) (es := 8) (len := 0) (cs := [AV.int IntKind.i64 1, AV.int IntKind.i64 kd, AV.int IntKind.i64 nn, AV.str s, AV.str [], AV.lst [],
      AV.int IntKind.i64 0, AV.int IntKind.i64 0]) 2 (by kernel_rfl) (by kernel_rfl) (by kernel_rfl) ?_
        refine Rk.appendE hcl hbb hcs (ty := 36) (es := 8) (m := 1) (st := 1) (ty' := 36) (cs := [AV.int IntKind.i64 1, AV.int IntKind.i64 kd, AV.int IntKind.i64 nn, AV.str s, AV.str [], AV.lst [],
      AV.int IntKind.i64 0, AV.int IntKind.i64 0]) (cs' := [AV.int IntKind.i64 1, AV.int IntKind.i64 kd, AV.int IntKind.i64 nn, AV.str s, AV.str [], AV.lst [],
      AV.int IntKind.i64 0, AV.int IntKind.i64 0]) (new := [[AV.int IntKind.i64 1, AV.int IntKind.i64 kd, AV.int IntKind.i64 nn, AV.str s, AV.str [], AV.lst [],
        AV.int IntKind.i64 0, AV.int IntKind.i64 0]]) (H := C) (L := [Blk.cells 1 76 [AV.int IntKind.i64 kd, AV.int IntKind.i64 nn, AV.str s, AV.bool j, AV.lst (Br.avs t)],
      Blk.cells 1 36
        [AV.int IntKind.i64 1, AV.int IntKind.i64 kd, AV.int IntKind.i64 nn, AV.str s, AV.str [], AV.lst [],
          AV.int IntKind.i64 0, AV.int IntKind.i64 0],
      Blk.cells 1 36
        [AV.int IntKind.i64 1, AV.int IntKind.i64 kd, AV.int IntKind.i64 nn, AV.str s, AV.str [], AV.lst [],
          AV.int IntKind.i64 0, AV.int IntKind.i64 0]]) hmx 3 2 (by kernel_rfl) (by kernel_rfl) (by kernel_rfl) (by kernel_rfl) (by kernel_rfl) (by kernel_rfl) (by kernel_rfl) (by kernel_rfl) fun G2 hl2 ho2 => ?_
        have hb72 := (ho2 _ hne).trans hb7
        refine Rk.adv 1 (by kernel_rfl) ?_
        refine Rk.storeE hl2 hb72 (L := [Blk.cells 1 76 [AV.int IntKind.i64 kd, AV.int IntKind.i64 nn, AV.str s, AV.bool j, AV.lst (Br.avs t)],
      Blk.cells 1 36
        [AV.int IntKind.i64 1, AV.int IntKind.i64 kd, AV.int IntKind.i64 nn, AV.str s, AV.str [], AV.lst [],
          AV.int IntKind.i64 0, AV.int IntKind.i64 0],
      Blk.cells 1 36
        [AV.int IntKind.i64 1, AV.int IntKind.i64 kd, AV.int IntKind.i64 nn, AV.str s, AV.str [], AV.lst [],
          AV.int IntKind.i64 0, AV.int IntKind.i64 0],
      Blk.cells 1 36
        (cs ++
          [AV.int IntKind.i64 1, AV.int IntKind.i64 kd, AV.int IntKind.i64 nn, AV.str s, AV.str [], AV.lst [],
            AV.int IntKind.i64 0, AV.int IntKind.i64 0])]) (n := 1) (o := 5) (v := AV.sl 8 (cl + 3) 0 (k + 1)) ([AV.int IntKind.i64 4, AV.int IntKind.i64 0, AV.int IntKind.i64 0, AV.str [], AV.str [], AV.sl 8 (cl + 3) 0 (k + 1),
      AV.int IntKind.i64 0, AV.int IntKind.i64 0]) (by kernel_rfl) (by kernel_rfl) (by kernel_rfl) (by kernel_rfl) fun G3 hl3 he3 hb3 ho3 => ?_
        refine Rk.adv 6 (by kernel_rfl) ?_
        -- LOOP
        refine Rk.inc p32 k (by kernel_rfl) (by omega) ?_
        refine Rk.kn F61 [.code c61_17] (G3 ++
          [Blk.cells 1 76 [AV.int IntKind.i64 kd, AV.int IntKind.i64 nn, AV.str s, AV.bool j, AV.lst (Br.avs t)],
            Blk.cells 1 36
              [AV.int IntKind.i64 1, AV.int IntKind.i64 kd, AV.int IntKind.i64 nn, AV.str s, AV.str [], AV.lst [],
                AV.int IntKind.i64 0, AV.int IntKind.i64 0],
            Blk.cells 1 36
              [AV.int IntKind.i64 1, AV.int IntKind.i64 kd, AV.int IntKind.i64 nn, AV.str s, AV.str [], AV.lst [],
                AV.int IntKind.i64 0, AV.int IntKind.i64 0],
            Blk.cells 1 36
              (cs ++
                [AV.int IntKind.i64 1, AV.int IntKind.i64 kd, AV.int IntKind.i64 nn, AV.str s, AV.str [], AV.lst [],
                  AV.int IntKind.i64 0, AV.int IntKind.i64 0])]) [(p32, .int .i64 (Int.ofNat (k + 1))), (p30, .lst (Lf.avs ls)), (p31, .int .i64 (Int.ofNat (Lf.avs ls).length)), (p2, .ptr 0 0), (p3, .ptr 1 0), (p6, .ptr b6 0), (p7, .ptr b7 0), (p12, .lst (Br.avs ts)), (p13, .int .i64 (Int.ofNat (Br.avs ts).length)), (p14, .int .i64 (Int.ofNat i))] [] (by kernel_rfl) (by kernel_rfl) (by kernel_rfl) (by kernel_rfl) (by kernel_rfl) (by kernel_rfl) ?_
        intro f1 hk1 _
        first
          | (subst h1; exact hi (k + 1) (by omega) (by omega) f1 _ (In61.nextS (bl' := cl + 4) hlen hI.ag hbl hcs hfz hx h7lt (by simp only [List.length_append, hl3, hcl]; omega) (fun c k hc e => at_elder ((ho3 c (fun h => hc (.inl h))).trans ((ho2 c (fun h => hc (.inr h))).trans e))) (at_elder hb3) (by omega) ((at_endn hl3).trans rfl) rfl (fzl_in (b := cl + 2) ((at_endn hl3).trans rfl) (by omega))) hk1)
          | (subst h1; exact hi (k + 1) (by omega) (by omega) f1 _ (In61.nextS (bl' := cl + 3) hlen hI.ag hbl hcs hfz hx h7lt (by simp only [List.length_append, hl3, hcl]; omega) (fun c k hc e => at_elder ((ho3 c (fun h => hc (.inl h))).trans ((ho2 c (fun h => hc (.inr h))).trans e))) (at_elder hb3) (by omega) ((at_endn hl3).trans rfl) rfl (fun _ _ => rfl)) hk1)
abbrev zc : Blk := .cells 1 36 [.int .i64 0, .int .i64 0, .int .i64 0, .str [], .str [], .nils, .int .i64 0, .int .i64 0]
structure Ou61 (ts : List Br) (i : Nat) (C : Hp) : Prop where
  z : C[0]? = some zc
  kids : (i = 0 ∧ C[1]? = some (vc 5 .nils)) ∨ (∃ bo cs, 2 ≤ bo ∧ C[1]? = some (vc 5 (.sl 8 bo 0 (2 * i))) ∧ C[bo]? = some (.cells 1 36 cs) ∧ cs.length = 2 * i * 8 ∧ FzB C (fun c => c < 2 ∨ c = bo) 6 8 cs (2 * i) (Br.nds (ts.take i)))
mutual
/-- Few enough, nowhere empty. -/
def Lf.fw : Lf → Prop
  | .mk _ _ _ _ t => t.length ≤ 10000 ∧ Br.fws t
def Br.fw : Br → Prop
  | .mk _ _ l => 0 < l.length ∧ l.length ≤ 10000 ∧ Lf.fws l
def Lf.fws : List Lf → Prop
  | [] => True
  | x :: r => x.fw ∧ Lf.fws r
def Br.fws : List Br → Prop
  | [] => True
  | x :: r => x.fw ∧ Br.fws r
end
theorem Lf.fws_at : ∀ {l : List Lf} {i : Nat} {x : Lf}, Lf.fws l → l[i]? = some x → x.fw
  | [], i, x, _, h => by simp at h
  | y :: r, 0, x, h, e => by simp at e; subst e; exact h.1
  | y :: r, i + 1, x, h, e => Lf.fws_at h.2 (by simpa using e)
theorem Br.fws_at : ∀ {l : List Br} {i : Nat} {x : Br}, Br.fws l → l[i]? = some x → x.fw
  | [], i, x, _, h => by simp at h
  | y :: r, 0, x, h, e => by simp at e; subst e; exact h.1
  | y :: r, i + 1, x, h, e => Br.fws_at h.2 (by simpa using e)
theorem In61.start {C0 : Hp} {b7 : Nat} {ls : List Lf} (h : C0[b7]? = some (vc 4 .nils)) : In61 C0 b7 ls 0 C0 := ⟨Nat.le_refl _, Ag.refl _ _, .inl ⟨rfl, h⟩⟩
theorem FzB.snoc2 {C : Hp} {M : Nat → Prop} {n es len : Nat} {cs e1 e2 w1 w2 : List AV} {ws : List (List AV)} (h : FzB C M n es cs len ws) (hl : cs.length = len * es) (h1 : e1.length = es) (h2 : e2.length = es) (f1 : FzL C M n e1 w1) (f2 : FzL C M n e2 w2) : FzB C M n es (cs ++ (e1 ++ e2)) (len + 2) (ws ++ [w1, w2]) := by
  have := (h.snoc hl h1 f1).snoc (by rw [List.length_append, hl, h1, Nat.add_mul]; omega) h2 f2
  rw [List.append_assoc, List.append_assoc] at this
  exact this
theorem fzl_vec {C : Hp} {M : Nat → Prop} {b len : Nat} {ws : List (List AV)} (h : FzV C M 6 (.sl 8 b 0 len) (.lst ws)) : FzL C M 6 [.int .i64 4, .int .i64 0, .int .i64 0, .str [], .str [], .sl 8 b 0 len, .int .i64 0, .int .i64 0] (nd 4 0 0 [] [] ws) := by
  intro C' k
  have := h C' k
  have e (v : AV) (hv : hf v = true) (hn : frz false C' 0 6 v = if hf v then some v else none) : frz false C' 0 6 v = some v := by rw [hn, if_pos hv]
  simp only [optL, this, e (.int .i64 4) rfl rfl, e (.int .i64 0) rfl rfl, e (.str []) rfl rfl, Option.map_some]
theorem fzl_hd {C : Hp} {M : Nat → Prop} {b st ty : Nat} {a : List Nat} (hb : C[b]? = some (.cells st ty [.int .i64 1, .int .i64 7, .int .i64 0, .str a, .str [], .lst [], .int .i64 0, .int .i64 0, .int .i64 2, .int .i64 0, .int .i64 0, .str [], .str [98, 97, 99, 107], .nils, .int .i64 0, .int .i64 0])) (hm : ¬ M b) :
    FzL C M 6 [.int .i64 3, .int .i64 0, .int .i64 0, .str [], .str [], .sl 8 b 0 2, .int .i64 0, .int .i64 0] (hdOf a true) := by
  intro C' k'
  have := k' b _ hm hb
  simp [optL, frz, this, chunks, hf, hdOf]
theorem nds2_snoc {ts : List Br} {i : Nat} {a : List Nat} {b : Bool} {ls : List Lf} (h : ts[i]? = some (.mk a b ls)) : Br.nds (ts.take (i + 1)) = Br.nds (ts.take i) ++ [hdOf a b, nd 4 0 0 [] [] (Lf.nds ls)] := by
  rw [Br.nds_map, Br.nds_map, List.take_add_one, h]
  simp [Br.nd2]
/-- One more branch. -/
theorem Ou61.next {ts : List Br} {i : Nat} {a : List Nat} {b : Bool} {ls : List Lf} {C' : Hp} {bo' : Nat} {cs e1 e2 : List AV} (hx : ts[i]? = some (.mk a b ls)) (hz : C'[0]? = some zc) (h1 : C'[1]? = some (vc 5 (.sl 8 bo' 0 (2 * i + 2)))) (hb2 : 2 ≤ bo') (hb : C'[bo']? = some (.cells 1 36 (cs ++ (e1 ++ e2))))
    (hcs : cs.length = 2 * i * 8) (hfz : FzB C' (fun c => c < 2 ∨ c = bo') 6 8 cs (2 * i) (Br.nds (ts.take i))) (l1 : e1.length = 8) (l2 : e2.length = 8) (f1 : FzL C' (fun c => c < 2 ∨ c = bo') 6 e1 (hdOf a b)) (f2 : FzL C' (fun c => c < 2 ∨ c = bo') 6 e2 (nd 4 0 0 [] [] (Lf.nds ls))) : Ou61 ts (i + 1) C' := by
  refine ⟨hz, .inr ⟨bo', _, hb2, h1, hb, by simp only [List.length_append, l1, l2, hcs]; omega, ?_⟩⟩
  rw [nds2_snoc hx]
  exact FzB.snoc2 hfz hcs l1 l2 f1 f2
/-- What the leaves' loop leaves behind freezes. -/
theorem In61.fz {C0 C : Hp} {bl k : Nat} {cs : List AV} {ws : List (List AV)} (hbl : C0.length ≤ bl) (hb : C[bl]? = some (.cells 1 36 cs)) (hcs : cs.length = k * 8) (hfz : FzB C (fun c => c < C0.length ∨ c = bl) 5 8 cs k ws) : FzV C (fun c => c < C0.length) 6 (.sl 8 bl 0 k) (.lst ws) :=
  FzV.sl hb (by omega) (by omega) (hfz.step (Ag.refl _ _) fun c _ h => .inl h)
set_option maxHeartbeats 4000000 in
theorem w61_out {fs : Nat → Option CF} {pr : Nat → List AV → Hp → Option (AV × Hp)} (h98 : Has (E3 fs pr) 98 F98) {ts : List Br} (hts : ts.length ≤ 10000) (hfw : Br.fws ts)
    (ih : ∀ (i : Nat) (a : List Nat) (b : Bool) (ls : List Lf) (k : Nat) (kd n : Int) (s : List Nat) (t : List Br), ts[i]? = some (.mk a b ls) → ls[k]? = some (.mk kd n s true t) → ∀ H, Cl (E3 fs pr) (.fn 61 []) [.lst (Br.avs t)] H (.agg (nodeOf t)) H) :
    ∀ (m i : Nat), ts.length - i = m → i ≤ ts.length → ∀ (f : Fr) (C : Hp), Ou61 ts i C → Knows F61 f [(p14, .int .i64 (Int.ofNat i)), (p12, .lst (Br.avs ts)), (p13, .int .i64 (Int.ofNat (Br.avs ts).length)), (p2, .ptr 0 0), (p3, .ptr 1 0)] →
    Rk (E3 fs pr) ⟨[.code c61_20], .norm, f, C⟩ (fun e f' C' => e = .exit 0 ∧ Ou61 ts ts.length C' ∧ Knows F61 f' [(p2, .ptr 0 0), (p3, .ptr 1 0)]) := by
  intro m
  induction m with
  | zero =>
    intro i hm hil f C hO hk
    have : i = ts.length := by omega
    subst this
    obtain ⟨g, rfl⟩ := hk.gen
    have hlt : decide (Int.ofNat ts.length < Int.ofNat (Br.avs ts).length) = false := by rw [Br.len]; simp
    refine Rk.adv 6 (by kernel_rfl) ?_
    refine Rk.know p15 (decide (Int.ofNat (List.length ts) < Int.ofNat (List.length (Br.avs ts)))) false (by kernel_rfl) hlt ?_
    refine Rk.adv 4 (by kernel_rfl) ?_
    -- FIN
    refine Rk.doneK F61 (.exit 0) C [(p2, .ptr 0 0), (p3, .ptr 1 0)] [] (by kernel_rfl) (by kernel_rfl) (by kernel_rfl) (by kernel_rfl) (by kernel_rfl) (by kernel_rfl) ?_
    intro f1 hk1 _
    exact ⟨rfl, hO, hk1⟩
  | succ m hi =>
    intro i hm hil f C hO hk
    obtain ⟨g, rfl⟩ := hk.gen
    have hlt : decide (Int.ofNat i < Int.ofNat (Br.avs ts).length) = true := by rw [Br.len]; simp; omega
    obtain ⟨⟨a, b, ls⟩, hx⟩ : ∃ x, ts[i]? = some x := ⟨_, List.getElem?_eq_getElem (by omega)⟩
    have hb := Br.at hx
    have hfx := Br.fws_at hfw hx
    have hc := cl98 h98 7 0 a
    have ihx := fun k kd n s t => ih i a b ls k kd n s t hx
    obtain ⟨cl, hcl⟩ : ∃ cl, C.length = cl := ⟨_, rfl⟩
    clear ih
    rw [← List.append_nil C]
    refine Rk.adv 6 (by kernel_rfl) ?_
    refine Rk.know p15 (decide (Int.ofNat i < Int.ofNat (List.length (Br.avs ts)))) true (by kernel_rfl) hlt ?_
    refine Rk.adv 6 (by kernel_rfl) ?_
    refine Rk.iaddr (l := Br.avs ts) (n := i) (c := [AV.str a, AV.bool b, AV.lst (Lf.avs ls)]) (es := 3) (by kernel_rfl) hb (by kernel_rfl) ?_
    refine Rk.adv 1 (by kernel_rfl) ?_
    refine Rk.alloc hcl (H := C) (L := []) (ty := 74) (z := [AV.str [], AV.bool false, AV.nils]) 0 (by kernel_rfl) (by kernel_rfl) (by kernel_rfl) ?_
    refine Rk.store hcl (H := C) (L := [Blk.cells 1 74 [AV.str [], AV.bool false, AV.nils]]) (n := 3) (j := 0) (o := 0) (ty := 74) (cs := [AV.str [], AV.bool false, AV.nils]) (v := AV.agg [AV.str a, AV.bool b, AV.lst (Lf.avs ls)]) (by kernel_rfl) (by kernel_rfl) (by kernel_rfl) (by kernel_rfl) ?_
    refine Rk.adv 4 (by kernel_rfl) ?_
    refine Rk.load hcl (H := C) (L := [Blk.cells 1 74 [AV.str a, AV.bool b, AV.lst (Lf.avs ls)]]) (n := 1) (ag := false) (j := 0) (o := 0) (st := 1) (ty := 74) (cs := [AV.str a, AV.bool b, AV.lst (Lf.avs ls)]) (v := AV.str a) (by kernel_rfl) (by kernel_rfl) (by kernel_rfl) (by kernel_rfl) ?_
    refine Rk.adv 1 (by kernel_rfl) ?_
    refine Rk.callH (H := C ++ [Blk.cells 1 74 [AV.str a, AV.bool b, AV.lst (Lf.avs ls)]]) (hH := by kernel_rfl) (as := [AV.agg [AV.int IntKind.i64 7, AV.int IntKind.i64 0, AV.str a]]) (by kernel_rfl) (hc _) ?_
    refine Rk.alloc hcl (H := C) (L := [Blk.cells 1 74 [AV.str a, AV.bool b, AV.lst (Lf.avs ls)]]) (ty := 36) (z := [AV.int IntKind.i64 0, AV.int IntKind.i64 0, AV.int IntKind.i64 0, AV.str [], AV.str [], AV.nils, AV.int IntKind.i64 0,
    AV.int IntKind.i64 0]) 1 (by kernel_rfl) (by kernel_rfl) (by kernel_rfl) ?_
    refine Rk.store hcl (H := C) (L := [Blk.cells 1 74 [AV.str a, AV.bool b, AV.lst (Lf.avs ls)],
    Blk.cells 1 36
      [AV.int IntKind.i64 0, AV.int IntKind.i64 0, AV.int IntKind.i64 0, AV.str [], AV.str [], AV.nils,
        AV.int IntKind.i64 0, AV.int IntKind.i64 0]]) (n := 8) (j := 1) (o := 0) (ty := 36) (cs := [AV.int IntKind.i64 0, AV.int IntKind.i64 0, AV.int IntKind.i64 0, AV.str [], AV.str [], AV.nils, AV.int IntKind.i64 0,
    AV.int IntKind.i64 0]) (v := AV.agg
    [AV.int IntKind.i64 1, AV.int IntKind.i64 7, AV.int IntKind.i64 0, AV.str a, AV.str [], AV.lst [],
      AV.int IntKind.i64 0, AV.int IntKind.i64 0]) (by kernel_rfl) (by kernel_rfl) (by kernel_rfl) (by kernel_rfl) ?_
    refine Rk.adv 5 (by kernel_rfl) ?_
    refine Rk.load hcl (H := C) (L := [Blk.cells 1 74 [AV.str a, AV.bool b, AV.lst (Lf.avs ls)],
    Blk.cells 1 36
      [AV.int IntKind.i64 1, AV.int IntKind.i64 7, AV.int IntKind.i64 0, AV.str a, AV.str [], AV.lst [],
        AV.int IntKind.i64 0, AV.int IntKind.i64 0]]) (n := 1) (ag := false) (j := 0) (o := 1) (st := 1) (ty := 74) (cs := [AV.str a, AV.bool b, AV.lst (Lf.avs ls)]) (v := AV.bool b) (by kernel_rfl) (by kernel_rfl) (by kernel_rfl) (by kernel_rfl) ?_
    refine Rk.adv 1 (by kernel_rfl) ?_
    refine Rk.split p23 (b) (by kernel_rfl) (fun h1 => ?_) (fun h1 => ?_)
    · refine Rk.adv 2 (by kernel_rfl) ?_
      refine Rk.load hcl (H := C) (L := [Blk.cells 1 74 [AV.str a, AV.bool b, AV.lst (Lf.avs ls)],
    Blk.cells 1 36
      [AV.int IntKind.i64 1, AV.int IntKind.i64 7, AV.int IntKind.i64 0, AV.str a, AV.str [], AV.lst [],
        AV.int IntKind.i64 0, AV.int IntKind.i64 0]]) (n := 8) (ag := true) (j := 1) (o := 0) (st := 1) (ty := 36) (cs := [AV.int IntKind.i64 1, AV.int IntKind.i64 7, AV.int IntKind.i64 0, AV.str a, AV.str [], AV.lst [], AV.int IntKind.i64 0,
    AV.int IntKind.i64 0]) (v := AV.agg
    [AV.int IntKind.i64 1, AV.int IntKind.i64 7, AV.int IntKind.i64 0, AV.str a, AV.str [], AV.lst [],
      AV.int IntKind.i64 0, AV.int IntKind.i64 0]) (by kernel_rfl) (by kernel_rfl) (by kernel_rfl) (by kernel_rfl) ?_
      refine Rk.adv 1 (by kernel_rfl) ?_
      refine Rk.bslice hcl (H := C) (L := [Blk.cells 1 74 [AV.str a, AV.bool b, AV.lst (Lf.avs ls)],
    Blk.cells 1 36
      [AV.int IntKind.i64 1, AV.int IntKind.i64 7, AV.int IntKind.i64 0, AV.str a, AV.str [], AV.lst [],
        AV.int IntKind.i64 0, AV.int IntKind.i64 0]]) (ty := 36) (es := 8) (len := 1) (cs := [AV.int IntKind.i64 1, AV.int IntKind.i64 7, AV.int IntKind.i64 0, AV.str a, AV.str [], AV.lst [], AV.int IntKind.i64 0,
    AV.int IntKind.i64 0, AV.int IntKind.i64 2, AV.int IntKind.i64 0, AV.int IntKind.i64 0, AV.str [],
    AV.str [98, 97, 99, 107], AV.nils, AV.int IntKind.i64 0, AV.int IntKind.i64 0]) 2 (by kernel_rfl) (by kernel_rfl) (by kernel_rfl) ?_
      refine Rk.adv 1 (by kernel_rfl) ?_
      refine Rk.store hcl (H := C) (L := [Blk.cells 1 74 [AV.str a, AV.bool b, AV.lst (Lf.avs ls)],
    Blk.cells 1 36
      [AV.int IntKind.i64 1, AV.int IntKind.i64 7, AV.int IntKind.i64 0, AV.str a, AV.str [], AV.lst [],
        AV.int IntKind.i64 0, AV.int IntKind.i64 0],
    Blk.cells 1 36
      [AV.int IntKind.i64 1, AV.int IntKind.i64 7, AV.int IntKind.i64 0, AV.str a, AV.str [], AV.lst [],
        AV.int IntKind.i64 0, AV.int IntKind.i64 0, AV.int IntKind.i64 2, AV.int IntKind.i64 0, AV.int IntKind.i64 0,
        AV.str [], AV.str [98, 97, 99, 107], AV.nils, AV.int IntKind.i64 0, AV.int IntKind.i64 0]]) (n := 8) (j := 1) (o := 0) (ty := 36) (cs := [AV.int IntKind.i64 1, AV.int IntKind.i64 7, AV.int IntKind.i64 0, AV.str a, AV.str [], AV.lst [], AV.int IntKind.i64 0,
    AV.int IntKind.i64 0]) (v := AV.agg
    [AV.int IntKind.i64 3, AV.int IntKind.i64 0, AV.int IntKind.i64 0, AV.str [], AV.str [], AV.sl 8 (cl + 2) 0 2,
      AV.int IntKind.i64 0, AV.int IntKind.i64 0]) (by kernel_rfl) (by kernel_rfl) (by kernel_rfl) (by kernel_rfl) ?_
      refine Rk.adv 4 (by kernel_rfl) ?_
      refine Rk.alloc hcl (H := C) (L := [Blk.cells 1 74 [AV.str a, AV.bool b, AV.lst (Lf.avs ls)],
    Blk.cells 1 36
      [AV.int IntKind.i64 3, AV.int IntKind.i64 0, AV.int IntKind.i64 0, AV.str [], AV.str [], AV.sl 8 (cl + 2) 0 2,
        AV.int IntKind.i64 0, AV.int IntKind.i64 0],
    Blk.cells 1 36
      [AV.int IntKind.i64 1, AV.int IntKind.i64 7, AV.int IntKind.i64 0, AV.str a, AV.str [], AV.lst [],
        AV.int IntKind.i64 0, AV.int IntKind.i64 0, AV.int IntKind.i64 2, AV.int IntKind.i64 0, AV.int IntKind.i64 0,
        AV.str [], AV.str [98, 97, 99, 107], AV.nils, AV.int IntKind.i64 0, AV.int IntKind.i64 0]]) (ty := 36) (z := [AV.int IntKind.i64 0, AV.int IntKind.i64 0, AV.int IntKind.i64 0, AV.str [], AV.str [], AV.nils, AV.int IntKind.i64 0,
    AV.int IntKind.i64 0]) 3 (by kernel_rfl) (by kernel_rfl) (by kernel_rfl) ?_
      refine Rk.store hcl (H := C) (L := [Blk.cells 1 74 [AV.str a, AV.bool b, AV.lst (Lf.avs ls)],
    Blk.cells 1 36
      [AV.int IntKind.i64 3, AV.int IntKind.i64 0, AV.int IntKind.i64 0, AV.str [], AV.str [], AV.sl 8 (cl + 2) 0 2,
        AV.int IntKind.i64 0, AV.int IntKind.i64 0],
    Blk.cells 1 36
      [AV.int IntKind.i64 1, AV.int IntKind.i64 7, AV.int IntKind.i64 0, AV.str a, AV.str [], AV.lst [],
        AV.int IntKind.i64 0, AV.int IntKind.i64 0, AV.int IntKind.i64 2, AV.int IntKind.i64 0, AV.int IntKind.i64 0,
        AV.str [], AV.str [98, 97, 99, 107], AV.nils, AV.int IntKind.i64 0, AV.int IntKind.i64 0],
    Blk.cells 1 36
      [AV.int IntKind.i64 0, AV.int IntKind.i64 0, AV.int IntKind.i64 0, AV.str [], AV.str [], AV.nils,
        AV.int IntKind.i64 0, AV.int IntKind.i64 0]]) (n := 8) (j := 3) (o := 0) (ty := 36) (cs := [AV.int IntKind.i64 0, AV.int IntKind.i64 0, AV.int IntKind.i64 0, AV.str [], AV.str [], AV.nils, AV.int IntKind.i64 0,
    AV.int IntKind.i64 0]) (v := AV.agg
    [AV.int IntKind.i64 4, AV.int IntKind.i64 0, AV.int IntKind.i64 0, AV.str [], AV.str [], AV.nils,
      AV.int IntKind.i64 0, AV.int IntKind.i64 0]) (by kernel_rfl) (by kernel_rfl) (by kernel_rfl) (by kernel_rfl) ?_
      refine Rk.adv 5 (by kernel_rfl) ?_
      refine Rk.load hcl (H := C) (L := [Blk.cells 1 74 [AV.str a, AV.bool b, AV.lst (Lf.avs ls)],
    Blk.cells 1 36
      [AV.int IntKind.i64 3, AV.int IntKind.i64 0, AV.int IntKind.i64 0, AV.str [], AV.str [], AV.sl 8 (cl + 2) 0 2,
        AV.int IntKind.i64 0, AV.int IntKind.i64 0],
    Blk.cells 1 36
      [AV.int IntKind.i64 1, AV.int IntKind.i64 7, AV.int IntKind.i64 0, AV.str a, AV.str [], AV.lst [],
        AV.int IntKind.i64 0, AV.int IntKind.i64 0, AV.int IntKind.i64 2, AV.int IntKind.i64 0, AV.int IntKind.i64 0,
        AV.str [], AV.str [98, 97, 99, 107], AV.nils, AV.int IntKind.i64 0, AV.int IntKind.i64 0],
    Blk.cells 1 36
      [AV.int IntKind.i64 4, AV.int IntKind.i64 0, AV.int IntKind.i64 0, AV.str [], AV.str [], AV.nils,
        AV.int IntKind.i64 0, AV.int IntKind.i64 0]]) (n := 1) (ag := false) (j := 0) (o := 2) (st := 1) (ty := 74) (cs := [AV.str a, AV.bool b, AV.lst (Lf.avs ls)]) (v := AV.lst (Lf.avs ls)) (by kernel_rfl) (by kernel_rfl) (by kernel_rfl) (by kernel_rfl) ?_
      refine Rk.adv 4 (by kernel_rfl) ?_
      -- LOOP
      refine Rk.kn F61 [.code c61_17, .blk 2, .code c61_18, .blk 1, .code c61_19, .code c61_20] (C ++
        [Blk.cells 1 74 [AV.str a, AV.bool b, AV.lst (Lf.avs ls)],
          Blk.cells 1 36
            [AV.int IntKind.i64 3, AV.int IntKind.i64 0, AV.int IntKind.i64 0, AV.str [], AV.str [], AV.sl 8 (cl + 2) 0 2,
              AV.int IntKind.i64 0, AV.int IntKind.i64 0],
          Blk.cells 1 36
            [AV.int IntKind.i64 1, AV.int IntKind.i64 7, AV.int IntKind.i64 0, AV.str a, AV.str [], AV.lst [],
              AV.int IntKind.i64 0, AV.int IntKind.i64 0, AV.int IntKind.i64 2, AV.int IntKind.i64 0, AV.int IntKind.i64 0,
              AV.str [], AV.str [98, 97, 99, 107], AV.nils, AV.int IntKind.i64 0, AV.int IntKind.i64 0],
          Blk.cells 1 36
            [AV.int IntKind.i64 4, AV.int IntKind.i64 0, AV.int IntKind.i64 0, AV.str [], AV.str [], AV.nils,
              AV.int IntKind.i64 0, AV.int IntKind.i64 0]]) [(p32, .int .i64 (Int.ofNat 0)), (p30, .lst (Lf.avs ls)), (p31, .int .i64 (Int.ofNat (Lf.avs ls).length)), (p2, .ptr 0 0), (p3, .ptr 1 0), (p6, .ptr (cl + 1) 0), (p7, (AV.ptr (cl + 3) 0)), (p12, .lst (Br.avs ts)), (p13, .int .i64 (Int.ofNat (Br.avs ts).length)), (p14, .int .i64 (Int.ofNat i))] [] (by kernel_rfl) (by kernel_rfl) (by kernel_rfl) (by kernel_rfl) (by kernel_rfl) (by kernel_rfl) ?_
      intro f1 hk1 _
      refine Rk.trans (c := [.code c61_17]) (k := [.blk 2, .code c61_18, .blk 1, .code c61_19, .code c61_20]) ((w61_in h98 (by simp only [List.length_append, List.length_cons, List.length_nil, hcl]; omega) hfx.2.1 ihx _ 0 rfl (Nat.zero_le _) f1 _ (In61.start ((at_endn hcl).trans rfl)) hk1).weak ?_)
      rintro _ f2 C2 ⟨rfl, hI2, hk2⟩
      obtain ⟨g2, rfl⟩ := hk2.gen
      have hag := hI2.ag
      have hlen := hI2.len
      have z2 : C2[0]? = some zc := hag 0 _ (by omega) (at_elder hO.z)
      have hclt : 1 < cl := by rw [← hcl]; rcases hO.kids with ⟨_, h⟩ | ⟨_, _, _, h, _⟩ <;> exact (List.getElem?_eq_some_iff.1 h).1
      simp only [List.length_append, List.length_cons, List.length_nil, hcl] at hlen
      rcases hI2.kids with ⟨h, _⟩ | ⟨bl, cs7, hbl, h7, hbb, hcs7, hfz7⟩
      · have := hfx.1; omega
      have hvec := In61.fz hbl hbb hcs7 hfz7
      rw [List.take_length] at hvec
      have h6 := hag (cl + 1) _ (by omega) ((at_endn hcl).trans rfl)
      try have h8 := hag (cl + 2) _ (by omega) ((at_endn hcl).trans rfl)
      simp only [List.length_append, List.length_cons, List.length_nil, hcl] at hbl hvec
      clear hI2 hfz7 hbb ihx h98
      obtain ⟨cl2, hcl2⟩ : ∃ n, C2.length = n := ⟨_, rfl⟩
      rw [← List.append_nil C2]
      rcases hO.kids with ⟨rfl, k1⟩ | ⟨bo, cs, hbo, k1, hbc, hcs, hfz⟩
      · have k2 : C2[1]? = some (vc 5 .nils) := hag 1 _ (by omega) (at_elder k1)
        refine Rk.adv 3 (by kernel_rfl) ?_
        refine Rk.loadE k2 (L := []) (n := 1) (ag := false) (o := 5) (v := AV.nils) (by kernel_rfl) (by kernel_rfl) (by kernel_rfl) ?_
        refine Rk.loadE h6 (L := []) (n := 8) (ag := true) (o := 0) (v := AV.agg
        [AV.int IntKind.i64 3, AV.int IntKind.i64 0, AV.int IntKind.i64 0, AV.str [], AV.str [], AV.sl 8 (cl + 2) 0 2,
          AV.int IntKind.i64 0, AV.int IntKind.i64 0]) (by kernel_rfl) (by kernel_rfl) (by kernel_rfl) ?_
        refine Rk.loadE h7 (L := []) (n := 8) (ag := true) (o := 0) (v := AV.agg
        [AV.int IntKind.i64 4, AV.int IntKind.i64 0, AV.int IntKind.i64 0, AV.str [], AV.str [],
          AV.sl 8 bl 0 (List.length ls), AV.int IntKind.i64 0, AV.int IntKind.i64 0]) (by kernel_rfl) (by kernel_rfl) (by kernel_rfl) ?_
        refine Rk.bslice hcl2 (H := C2) (L := []) (ty := 36) (es := 8) (len := 1) (cs := [AV.int IntKind.i64 3, AV.int IntKind.i64 0, AV.int IntKind.i64 0, AV.str [], AV.str [], AV.sl 8 (cl + 2) 0 2,
        AV.int IntKind.i64 0, AV.int IntKind.i64 0, AV.int IntKind.i64 4, AV.int IntKind.i64 0, AV.int IntKind.i64 0,
        AV.str [], AV.str [], AV.sl 8 bl 0 (List.length ls), AV.int IntKind.i64 0, AV.int IntKind.i64 0]) 0 (by kernel_rfl) (by kernel_rfl) (by kernel_rfl) ?_
        refine Rk.appendN hcl2 (ty := 36) (es := 8) (m := 2) (st := 1) (ty' := 36) (cs := [AV.int IntKind.i64 3, AV.int IntKind.i64 0, AV.int IntKind.i64 0, AV.str [], AV.str [], AV.sl 8 (cl + 2) 0 2,
        AV.int IntKind.i64 0, AV.int IntKind.i64 0, AV.int IntKind.i64 4, AV.int IntKind.i64 0, AV.int IntKind.i64 0,
        AV.str [], AV.str [], AV.sl 8 bl 0 (List.length ls), AV.int IntKind.i64 0, AV.int IntKind.i64 0]) (cs' := [AV.int IntKind.i64 3, AV.int IntKind.i64 0, AV.int IntKind.i64 0, AV.str [], AV.str [], AV.sl 8 (cl + 2) 0 2,
        AV.int IntKind.i64 0, AV.int IntKind.i64 0, AV.int IntKind.i64 4, AV.int IntKind.i64 0, AV.int IntKind.i64 0,
        AV.str [], AV.str [], AV.sl 8 bl 0 (List.length ls), AV.int IntKind.i64 0, AV.int IntKind.i64 0]) (new := [[AV.int IntKind.i64 3, AV.int IntKind.i64 0, AV.int IntKind.i64 0, AV.str [], AV.str [], AV.sl 8 (cl + 2) 0 2,
          AV.int IntKind.i64 0, AV.int IntKind.i64 0],
        [AV.int IntKind.i64 4, AV.int IntKind.i64 0, AV.int IntKind.i64 0, AV.str [], AV.str [],
          AV.sl 8 bl 0 (List.length ls), AV.int IntKind.i64 0, AV.int IntKind.i64 0]]) (H := C2) (L := [Blk.cells 1 36
          [AV.int IntKind.i64 3, AV.int IntKind.i64 0, AV.int IntKind.i64 0, AV.str [], AV.str [], AV.sl 8 (cl + 2) 0 2,
            AV.int IntKind.i64 0, AV.int IntKind.i64 0, AV.int IntKind.i64 4, AV.int IntKind.i64 0, AV.int IntKind.i64 0,
            AV.str [], AV.str [], AV.sl 8 bl 0 (List.length ls), AV.int IntKind.i64 0, AV.int IntKind.i64 0]]) 1 0 (by kernel_rfl) (by kernel_rfl) (by kernel_rfl) (by kernel_rfl) (by kernel_rfl) (by kernel_rfl) (by kernel_rfl) (by kernel_rfl) ?_
        refine Rk.adv 1 (by kernel_rfl) ?_
        refine Rk.storeE hcl2 k2 (L := [Blk.cells 1 36
          [AV.int IntKind.i64 3, AV.int IntKind.i64 0, AV.int IntKind.i64 0, AV.str [], AV.str [], AV.sl 8 (cl + 2) 0 2,
            AV.int IntKind.i64 0, AV.int IntKind.i64 0, AV.int IntKind.i64 4, AV.int IntKind.i64 0, AV.int IntKind.i64 0,
            AV.str [], AV.str [], AV.sl 8 bl 0 (List.length ls), AV.int IntKind.i64 0, AV.int IntKind.i64 0],
        Blk.cells 1 36
          [AV.int IntKind.i64 3, AV.int IntKind.i64 0, AV.int IntKind.i64 0, AV.str [], AV.str [], AV.sl 8 (cl + 2) 0 2,
            AV.int IntKind.i64 0, AV.int IntKind.i64 0, AV.int IntKind.i64 4, AV.int IntKind.i64 0, AV.int IntKind.i64 0,
            AV.str [], AV.str [], AV.sl 8 bl 0 (List.length ls), AV.int IntKind.i64 0, AV.int IntKind.i64 0]]) (n := 1) (o := 5) (v := AV.sl 8 (cl2 + 1) 0 2) ([AV.int IntKind.i64 5, AV.int IntKind.i64 0, AV.int IntKind.i64 0, AV.str [], AV.str [], AV.sl 8 (cl2 + 1) 0 2,
        AV.int IntKind.i64 0, AV.int IntKind.i64 0]) (by kernel_rfl) (by kernel_rfl) (by kernel_rfl) (by kernel_rfl) fun G1 hl1 he1 hb1 ho1 => ?_
        refine Rk.adv 6 (by kernel_rfl) ?_
        -- LOOP
        refine Rk.inc p14 0 (by kernel_rfl) (by omega) ?_
        refine Rk.kn F61 [.code c61_20] (G1 ++
          [Blk.cells 1 36
              [AV.int IntKind.i64 3, AV.int IntKind.i64 0, AV.int IntKind.i64 0, AV.str [], AV.str [], AV.sl 8 (cl + 2) 0 2,
                AV.int IntKind.i64 0, AV.int IntKind.i64 0, AV.int IntKind.i64 4, AV.int IntKind.i64 0, AV.int IntKind.i64 0,
                AV.str [], AV.str [], AV.sl 8 bl 0 (List.length ls), AV.int IntKind.i64 0, AV.int IntKind.i64 0],
            Blk.cells 1 36
              [AV.int IntKind.i64 3, AV.int IntKind.i64 0, AV.int IntKind.i64 0, AV.str [], AV.str [], AV.sl 8 (cl + 2) 0 2,
                AV.int IntKind.i64 0, AV.int IntKind.i64 0, AV.int IntKind.i64 4, AV.int IntKind.i64 0, AV.int IntKind.i64 0,
                AV.str [], AV.str [], AV.sl 8 bl 0 (List.length ls), AV.int IntKind.i64 0, AV.int IntKind.i64 0]]) [(p14, .int .i64 (Int.ofNat (0 + 1))), (p12, .lst (Br.avs ts)), (p13, .int .i64 (Int.ofNat (Br.avs ts).length)), (p2, .ptr 0 0), (p3, .ptr 1 0)] [] (by kernel_rfl) (by kernel_rfl) (by kernel_rfl) (by kernel_rfl) (by kernel_rfl) (by kernel_rfl) ?_
        intro f3 hk3 _
        first
          | (subst h1; exact hi 1 (by omega) (by omega) f3 _ (Ou61.next (i := 0) (cs := []) (bo' := cl2 + 1) (e1 := [.int .i64 3, .int .i64 0, .int .i64 0, .str [], .str [], .sl 8 (cl + 2) 0 2, .int .i64 0, .int .i64 0]) hx (at_elder ((ho1 0 (by omega)).trans z2)) (at_elder hb1) (by omega) ((at_endn hl1).trans rfl) rfl FzB.nil rfl rfl (fzl_hd (b := cl + 2) (at_elder ((ho1 _ (by omega)).trans h8)) (by omega)) (fzl_vec (hvec.step (fun c k hc e => at_elder ((ho1 c (by omega)).trans e)) (fun c h1 h2 => by omega)))) hk3)
          | (subst h1; exact hi 1 (by omega) (by omega) f3 _ (Ou61.next (i := 0) (cs := []) (bo' := cl2 + 1) (e1 := sd 7 0 a) hx (at_elder ((ho1 0 (by omega)).trans z2)) (at_elder hb1) (by omega) ((at_endn hl1).trans rfl) rfl FzB.nil rfl rfl (fun _ _ => rfl) (fzl_vec (hvec.step (fun c k hc e => at_elder ((ho1 c (by omega)).trans e)) (fun c h1 h2 => by omega)))) hk3)
      · have k2 : C2[1]? = some (vc 5 (.sl 8 bo 0 (2 * i))) := hag 1 _ (by omega) (at_elder k1)
        have hbolt : bo < cl := by rw [← hcl]; exact (List.getElem?_eq_some_iff.1 hbc).1
        have k3 : C2[bo]? = some (.cells 1 36 cs) := hag bo _ (by omega) (at_elder hbc)
        have hne : (1 : Nat) ≠ bo := by omega
        have hmx : 2 * i + 2 ≤ mxLen := by unfold mxLen; omega
        refine Rk.adv 3 (by kernel_rfl) ?_
        refine Rk.loadE k2 (L := []) (n := 1) (ag := false) (o := 5) (v := AV.sl 8 bo 0 (2 * i)) (by kernel_rfl) (by kernel_rfl) (by kernel_rfl) ?_
        refine Rk.loadE h6 (L := []) (n := 8) (ag := true) (o := 0) (v := AV.agg
        [AV.int IntKind.i64 3, AV.int IntKind.i64 0, AV.int IntKind.i64 0, AV.str [], AV.str [], AV.sl 8 (cl + 2) 0 2,
          AV.int IntKind.i64 0, AV.int IntKind.i64 0]) (by kernel_rfl) (by kernel_rfl) (by kernel_rfl) ?_
        refine Rk.loadE h7 (L := []) (n := 8) (ag := true) (o := 0) (v := AV.agg
        [AV.int IntKind.i64 4, AV.int IntKind.i64 0, AV.int IntKind.i64 0, AV.str [], AV.str [],
          AV.sl 8 bl 0 (List.length ls), AV.int IntKind.i64 0, AV.int IntKind.i64 0]) (by kernel_rfl) (by kernel_rfl) (by kernel_rfl) ?_
        refine Rk.bslice hcl2 (H := C2) (L := []) (ty := 36) (es := 8) (len := 1) (cs := [AV.int IntKind.i64 3, AV.int IntKind.i64 0, AV.int IntKind.i64 0, AV.str [], AV.str [], AV.sl 8 (cl + 2) 0 2,
        AV.int IntKind.i64 0, AV.int IntKind.i64 0, AV.int IntKind.i64 4, AV.int IntKind.i64 0, AV.int IntKind.i64 0,
        AV.str [], AV.str [], AV.sl 8 bl 0 (List.length ls), AV.int IntKind.i64 0, AV.int IntKind.i64 0]) 0 (by kernel_rfl) (by kernel_rfl) (by kernel_rfl) ?_
        refine Rk.appendE hcl2 k3 hcs (ty := 36) (es := 8) (m := 2) (st := 1) (ty' := 36) (cs := [AV.int IntKind.i64 3, AV.int IntKind.i64 0, AV.int IntKind.i64 0, AV.str [], AV.str [], AV.sl 8 (cl + 2) 0 2,
        AV.int IntKind.i64 0, AV.int IntKind.i64 0, AV.int IntKind.i64 4, AV.int IntKind.i64 0, AV.int IntKind.i64 0,
        AV.str [], AV.str [], AV.sl 8 bl 0 (List.length ls), AV.int IntKind.i64 0, AV.int IntKind.i64 0]) (cs' := [AV.int IntKind.i64 3, AV.int IntKind.i64 0, AV.int IntKind.i64 0, AV.str [], AV.str [], AV.sl 8 (cl + 2) 0 2,
        AV.int IntKind.i64 0, AV.int IntKind.i64 0, AV.int IntKind.i64 4, AV.int IntKind.i64 0, AV.int IntKind.i64 0,
        AV.str [], AV.str [], AV.sl 8 bl 0 (List.length ls), AV.int IntKind.i64 0, AV.int IntKind.i64 0]) (new := [[AV.int IntKind.i64 3, AV.int IntKind.i64 0, AV.int IntKind.i64 0, AV.str [], AV.str [], AV.sl 8 (cl + 2) 0 2,
          AV.int IntKind.i64 0, AV.int IntKind.i64 0],
        [AV.int IntKind.i64 4, AV.int IntKind.i64 0, AV.int IntKind.i64 0, AV.str [], AV.str [],
          AV.sl 8 bl 0 (List.length ls), AV.int IntKind.i64 0, AV.int IntKind.i64 0]]) (H := C2) (L := [Blk.cells 1 36
          [AV.int IntKind.i64 3, AV.int IntKind.i64 0, AV.int IntKind.i64 0, AV.str [], AV.str [], AV.sl 8 (cl + 2) 0 2,
            AV.int IntKind.i64 0, AV.int IntKind.i64 0, AV.int IntKind.i64 4, AV.int IntKind.i64 0, AV.int IntKind.i64 0,
            AV.str [], AV.str [], AV.sl 8 bl 0 (List.length ls), AV.int IntKind.i64 0, AV.int IntKind.i64 0]]) hmx 1 0 (by kernel_rfl) (by kernel_rfl) (by kernel_rfl) (by kernel_rfl) (by kernel_rfl) (by kernel_rfl) (by kernel_rfl) (by kernel_rfl) fun G1 hl1 ho1 => ?_
        have k21 := (ho1 _ hne).trans k2
        refine Rk.adv 1 (by kernel_rfl) ?_
        refine Rk.storeE hl1 k21 (L := [Blk.cells 1 36
          [AV.int IntKind.i64 3, AV.int IntKind.i64 0, AV.int IntKind.i64 0, AV.str [], AV.str [], AV.sl 8 (cl + 2) 0 2,
            AV.int IntKind.i64 0, AV.int IntKind.i64 0, AV.int IntKind.i64 4, AV.int IntKind.i64 0, AV.int IntKind.i64 0,
            AV.str [], AV.str [], AV.sl 8 bl 0 (List.length ls), AV.int IntKind.i64 0, AV.int IntKind.i64 0],
        Blk.cells 1 36
          (cs ++
            [AV.int IntKind.i64 3, AV.int IntKind.i64 0, AV.int IntKind.i64 0, AV.str [], AV.str [], AV.sl 8 (cl + 2) 0 2,
              AV.int IntKind.i64 0, AV.int IntKind.i64 0, AV.int IntKind.i64 4, AV.int IntKind.i64 0, AV.int IntKind.i64 0,
              AV.str [], AV.str [], AV.sl 8 bl 0 (List.length ls), AV.int IntKind.i64 0, AV.int IntKind.i64 0])]) (n := 1) (o := 5) (v := AV.sl 8 (cl2 + 1) 0 (2 * i + 2)) ([AV.int IntKind.i64 5, AV.int IntKind.i64 0, AV.int IntKind.i64 0, AV.str [], AV.str [],
        AV.sl 8 (cl2 + 1) 0 (2 * i + 2), AV.int IntKind.i64 0, AV.int IntKind.i64 0]) (by kernel_rfl) (by kernel_rfl) (by kernel_rfl) (by kernel_rfl) fun G2 hl2 he2 hb2 ho2 => ?_
        refine Rk.adv 6 (by kernel_rfl) ?_
        -- LOOP
        refine Rk.inc p14 i (by kernel_rfl) (by omega) ?_
        refine Rk.kn F61 [.code c61_20] (G2 ++
          [Blk.cells 1 36
              [AV.int IntKind.i64 3, AV.int IntKind.i64 0, AV.int IntKind.i64 0, AV.str [], AV.str [], AV.sl 8 (cl + 2) 0 2,
                AV.int IntKind.i64 0, AV.int IntKind.i64 0, AV.int IntKind.i64 4, AV.int IntKind.i64 0, AV.int IntKind.i64 0,
                AV.str [], AV.str [], AV.sl 8 bl 0 (List.length ls), AV.int IntKind.i64 0, AV.int IntKind.i64 0],
            Blk.cells 1 36
              (cs ++
                [AV.int IntKind.i64 3, AV.int IntKind.i64 0, AV.int IntKind.i64 0, AV.str [], AV.str [], AV.sl 8 (cl + 2) 0 2,
                  AV.int IntKind.i64 0, AV.int IntKind.i64 0, AV.int IntKind.i64 4, AV.int IntKind.i64 0, AV.int IntKind.i64 0,
                  AV.str [], AV.str [], AV.sl 8 bl 0 (List.length ls), AV.int IntKind.i64 0, AV.int IntKind.i64 0])]) [(p14, .int .i64 (Int.ofNat (i + 1))), (p12, .lst (Br.avs ts)), (p13, .int .i64 (Int.ofNat (Br.avs ts).length)), (p2, .ptr 0 0), (p3, .ptr 1 0)] [] (by kernel_rfl) (by kernel_rfl) (by kernel_rfl) (by kernel_rfl) (by kernel_rfl) (by kernel_rfl) ?_
        intro f3 hk3 _
        first
          | (subst h1; exact hi (i + 1) (by omega) (by omega) f3 _ (Ou61.next (bo' := cl2 + 1) (e1 := [.int .i64 3, .int .i64 0, .int .i64 0, .str [], .str [], .sl 8 (cl + 2) 0 2, .int .i64 0, .int .i64 0]) hx (at_elder ((ho2 0 (by omega)).trans ((ho1 0 (by omega)).trans z2))) (at_elder hb2) (by omega) ((at_endn hl2).trans rfl) hcs (hfz.step (fun c k hc e => by have hc2 := (List.getElem?_eq_some_iff.1 e).1; exact at_elder ((ho2 c (by omega)).trans ((ho1 c (by omega)).trans (hag c _ (by omega) (at_elder e))))) (fun c h1 h2 => by omega)) rfl rfl (fzl_hd (b := cl + 2) (at_elder ((ho2 _ (by omega)).trans ((ho1 _ (by omega)).trans h8))) (by omega)) (fzl_vec (hvec.step (fun c k hc e => at_elder ((ho2 c (by omega)).trans ((ho1 c (by omega)).trans e))) (fun c h1 h2 => by omega)))) hk3)
          | (subst h1; exact hi (i + 1) (by omega) (by omega) f3 _ (Ou61.next (bo' := cl2 + 1) (e1 := sd 7 0 a) hx (at_elder ((ho2 0 (by omega)).trans ((ho1 0 (by omega)).trans z2))) (at_elder hb2) (by omega) ((at_endn hl2).trans rfl) hcs (hfz.step (fun c k hc e => by have hc2 := (List.getElem?_eq_some_iff.1 e).1; exact at_elder ((ho2 c (by omega)).trans ((ho1 c (by omega)).trans (hag c _ (by omega) (at_elder e))))) (fun c h1 h2 => by omega)) rfl rfl (fun _ _ => rfl) (fzl_vec (hvec.step (fun c k hc e => at_elder ((ho2 c (by omega)).trans ((ho1 c (by omega)).trans e))) (fun c h1 h2 => by omega)))) hk3)
    · refine Rk.adv 5 (by kernel_rfl) ?_
      refine Rk.alloc hcl (H := C) (L := [Blk.cells 1 74 [AV.str a, AV.bool b, AV.lst (Lf.avs ls)],
    Blk.cells 1 36
      [AV.int IntKind.i64 1, AV.int IntKind.i64 7, AV.int IntKind.i64 0, AV.str a, AV.str [], AV.lst [],
        AV.int IntKind.i64 0, AV.int IntKind.i64 0]]) (ty := 36) (z := [AV.int IntKind.i64 0, AV.int IntKind.i64 0, AV.int IntKind.i64 0, AV.str [], AV.str [], AV.nils, AV.int IntKind.i64 0,
    AV.int IntKind.i64 0]) 2 (by kernel_rfl) (by kernel_rfl) (by kernel_rfl) ?_
      refine Rk.store hcl (H := C) (L := [Blk.cells 1 74 [AV.str a, AV.bool b, AV.lst (Lf.avs ls)],
    Blk.cells 1 36
      [AV.int IntKind.i64 1, AV.int IntKind.i64 7, AV.int IntKind.i64 0, AV.str a, AV.str [], AV.lst [],
        AV.int IntKind.i64 0, AV.int IntKind.i64 0],
    Blk.cells 1 36
      [AV.int IntKind.i64 0, AV.int IntKind.i64 0, AV.int IntKind.i64 0, AV.str [], AV.str [], AV.nils,
        AV.int IntKind.i64 0, AV.int IntKind.i64 0]]) (n := 8) (j := 2) (o := 0) (ty := 36) (cs := [AV.int IntKind.i64 0, AV.int IntKind.i64 0, AV.int IntKind.i64 0, AV.str [], AV.str [], AV.nils, AV.int IntKind.i64 0,
    AV.int IntKind.i64 0]) (v := AV.agg
    [AV.int IntKind.i64 4, AV.int IntKind.i64 0, AV.int IntKind.i64 0, AV.str [], AV.str [], AV.nils,
      AV.int IntKind.i64 0, AV.int IntKind.i64 0]) (by kernel_rfl) (by kernel_rfl) (by kernel_rfl) (by kernel_rfl) ?_
      refine Rk.adv 5 (by kernel_rfl) ?_
      refine Rk.load hcl (H := C) (L := [Blk.cells 1 74 [AV.str a, AV.bool b, AV.lst (Lf.avs ls)],
    Blk.cells 1 36
      [AV.int IntKind.i64 1, AV.int IntKind.i64 7, AV.int IntKind.i64 0, AV.str a, AV.str [], AV.lst [],
        AV.int IntKind.i64 0, AV.int IntKind.i64 0],
    Blk.cells 1 36
      [AV.int IntKind.i64 4, AV.int IntKind.i64 0, AV.int IntKind.i64 0, AV.str [], AV.str [], AV.nils,
        AV.int IntKind.i64 0, AV.int IntKind.i64 0]]) (n := 1) (ag := false) (j := 0) (o := 2) (st := 1) (ty := 74) (cs := [AV.str a, AV.bool b, AV.lst (Lf.avs ls)]) (v := AV.lst (Lf.avs ls)) (by kernel_rfl) (by kernel_rfl) (by kernel_rfl) (by kernel_rfl) ?_
      refine Rk.adv 4 (by kernel_rfl) ?_
      -- LOOP
      refine Rk.kn F61 [.code c61_17, .blk 2, .code c61_18, .blk 1, .code c61_19, .code c61_20] (C ++
        [Blk.cells 1 74 [AV.str a, AV.bool b, AV.lst (Lf.avs ls)],
          Blk.cells 1 36
            [AV.int IntKind.i64 1, AV.int IntKind.i64 7, AV.int IntKind.i64 0, AV.str a, AV.str [], AV.lst [],
              AV.int IntKind.i64 0, AV.int IntKind.i64 0],
          Blk.cells 1 36
            [AV.int IntKind.i64 4, AV.int IntKind.i64 0, AV.int IntKind.i64 0, AV.str [], AV.str [], AV.nils,
              AV.int IntKind.i64 0, AV.int IntKind.i64 0]]) [(p32, .int .i64 (Int.ofNat 0)), (p30, .lst (Lf.avs ls)), (p31, .int .i64 (Int.ofNat (Lf.avs ls).length)), (p2, .ptr 0 0), (p3, .ptr 1 0), (p6, .ptr (cl + 1) 0), (p7, (AV.ptr (cl + 2) 0)), (p12, .lst (Br.avs ts)), (p13, .int .i64 (Int.ofNat (Br.avs ts).length)), (p14, .int .i64 (Int.ofNat i))] [] (by kernel_rfl) (by kernel_rfl) (by kernel_rfl) (by kernel_rfl) (by kernel_rfl) (by kernel_rfl) ?_
      intro f1 hk1 _
      refine Rk.trans (c := [.code c61_17]) (k := [.blk 2, .code c61_18, .blk 1, .code c61_19, .code c61_20]) ((w61_in h98 (by simp only [List.length_append, List.length_cons, List.length_nil, hcl]; omega) hfx.2.1 ihx _ 0 rfl (Nat.zero_le _) f1 _ (In61.start ((at_endn hcl).trans rfl)) hk1).weak ?_)
      rintro _ f2 C2 ⟨rfl, hI2, hk2⟩
      obtain ⟨g2, rfl⟩ := hk2.gen
      have hag := hI2.ag
      have hlen := hI2.len
      have z2 : C2[0]? = some zc := hag 0 _ (by omega) (at_elder hO.z)
      have hclt : 1 < cl := by rw [← hcl]; rcases hO.kids with ⟨_, h⟩ | ⟨_, _, _, h, _⟩ <;> exact (List.getElem?_eq_some_iff.1 h).1
      simp only [List.length_append, List.length_cons, List.length_nil, hcl] at hlen
      rcases hI2.kids with ⟨h, _⟩ | ⟨bl, cs7, hbl, h7, hbb, hcs7, hfz7⟩
      · have := hfx.1; omega
      have hvec := In61.fz hbl hbb hcs7 hfz7
      rw [List.take_length] at hvec
      have h6 := hag (cl + 1) _ (by omega) ((at_endn hcl).trans rfl)
      try have h8 := hag (cl + 2) _ (by omega) ((at_endn hcl).trans rfl)
      simp only [List.length_append, List.length_cons, List.length_nil, hcl] at hbl hvec
      clear hI2 hfz7 hbb ihx h98
      obtain ⟨cl2, hcl2⟩ : ∃ n, C2.length = n := ⟨_, rfl⟩
      rw [← List.append_nil C2]
      rcases hO.kids with ⟨rfl, k1⟩ | ⟨bo, cs, hbo, k1, hbc, hcs, hfz⟩
      · have k2 : C2[1]? = some (vc 5 .nils) := hag 1 _ (by omega) (at_elder k1)
        refine Rk.adv 3 (by kernel_rfl) ?_
        refine Rk.loadE k2 (L := []) (n := 1) (ag := false) (o := 5) (v := AV.nils) (by kernel_rfl) (by kernel_rfl) (by kernel_rfl) ?_
        refine Rk.loadE h6 (L := []) (n := 8) (ag := true) (o := 0) (v := AV.agg
        [AV.int IntKind.i64 1, AV.int IntKind.i64 7, AV.int IntKind.i64 0, AV.str a, AV.str [], AV.lst [],
          AV.int IntKind.i64 0, AV.int IntKind.i64 0]) (by kernel_rfl) (by kernel_rfl) (by kernel_rfl) ?_
        refine Rk.loadE h7 (L := []) (n := 8) (ag := true) (o := 0) (v := AV.agg
        [AV.int IntKind.i64 4, AV.int IntKind.i64 0, AV.int IntKind.i64 0, AV.str [], AV.str [],
          AV.sl 8 bl 0 (List.length ls), AV.int IntKind.i64 0, AV.int IntKind.i64 0]) (by kernel_rfl) (by kernel_rfl) (by kernel_rfl) ?_
        refine Rk.bslice hcl2 (H := C2) (L := []) (ty := 36) (es := 8) (len := 1) (cs := [AV.int IntKind.i64 1, AV.int IntKind.i64 7, AV.int IntKind.i64 0, AV.str a, AV.str [], AV.lst [], AV.int IntKind.i64 0,
        AV.int IntKind.i64 0, AV.int IntKind.i64 4, AV.int IntKind.i64 0, AV.int IntKind.i64 0, AV.str [], AV.str [],
        AV.sl 8 bl 0 (List.length ls), AV.int IntKind.i64 0, AV.int IntKind.i64 0]) 0 (by kernel_rfl) (by kernel_rfl) (by kernel_rfl) ?_
        refine Rk.appendN hcl2 (ty := 36) (es := 8) (m := 2) (st := 1) (ty' := 36) (cs := [AV.int IntKind.i64 1, AV.int IntKind.i64 7, AV.int IntKind.i64 0, AV.str a, AV.str [], AV.lst [], AV.int IntKind.i64 0,
        AV.int IntKind.i64 0, AV.int IntKind.i64 4, AV.int IntKind.i64 0, AV.int IntKind.i64 0, AV.str [], AV.str [],
        AV.sl 8 bl 0 (List.length ls), AV.int IntKind.i64 0, AV.int IntKind.i64 0]) (cs' := [AV.int IntKind.i64 1, AV.int IntKind.i64 7, AV.int IntKind.i64 0, AV.str a, AV.str [], AV.lst [], AV.int IntKind.i64 0,
        AV.int IntKind.i64 0, AV.int IntKind.i64 4, AV.int IntKind.i64 0, AV.int IntKind.i64 0, AV.str [], AV.str [],
        AV.sl 8 bl 0 (List.length ls), AV.int IntKind.i64 0, AV.int IntKind.i64 0]) (new := [[AV.int IntKind.i64 1, AV.int IntKind.i64 7, AV.int IntKind.i64 0, AV.str a, AV.str [], AV.lst [],
          AV.int IntKind.i64 0, AV.int IntKind.i64 0],
        [AV.int IntKind.i64 4, AV.int IntKind.i64 0, AV.int IntKind.i64 0, AV.str [], AV.str [],
          AV.sl 8 bl 0 (List.length ls), AV.int IntKind.i64 0, AV.int IntKind.i64 0]]) (H := C2) (L := [Blk.cells 1 36
          [AV.int IntKind.i64 1, AV.int IntKind.i64 7, AV.int IntKind.i64 0, AV.str a, AV.str [], AV.lst [],
            AV.int IntKind.i64 0, AV.int IntKind.i64 0, AV.int IntKind.i64 4, AV.int IntKind.i64 0, AV.int IntKind.i64 0,
            AV.str [], AV.str [], AV.sl 8 bl 0 (List.length ls), AV.int IntKind.i64 0, AV.int IntKind.i64 0]]) 1 0 (by kernel_rfl) (by kernel_rfl) (by kernel_rfl) (by kernel_rfl) (by kernel_rfl) (by kernel_rfl) (by kernel_rfl) (by kernel_rfl) ?_
        refine Rk.adv 1 (by kernel_rfl) ?_
        refine Rk.storeE hcl2 k2 (L := [Blk.cells 1 36
          [AV.int IntKind.i64 1, AV.int IntKind.i64 7, AV.int IntKind.i64 0, AV.str a, AV.str [], AV.lst [],
            AV.int IntKind.i64 0, AV.int IntKind.i64 0, AV.int IntKind.i64 4, AV.int IntKind.i64 0, AV.int IntKind.i64 0,
            AV.str [], AV.str [], AV.sl 8 bl 0 (List.length ls), AV.int IntKind.i64 0, AV.int IntKind.i64 0],
        Blk.cells 1 36
          [AV.int IntKind.i64 1, AV.int IntKind.i64 7, AV.int IntKind.i64 0, AV.str a, AV.str [], AV.lst [],
            AV.int IntKind.i64 0, AV.int IntKind.i64 0, AV.int IntKind.i64 4, AV.int IntKind.i64 0, AV.int IntKind.i64 0,
            AV.str [], AV.str [], AV.sl 8 bl 0 (List.length ls), AV.int IntKind.i64 0, AV.int IntKind.i64 0]]) (n := 1) (o := 5) (v := AV.sl 8 (cl2 + 1) 0 2) ([AV.int IntKind.i64 5, AV.int IntKind.i64 0, AV.int IntKind.i64 0, AV.str [], AV.str [], AV.sl 8 (cl2 + 1) 0 2,
        AV.int IntKind.i64 0, AV.int IntKind.i64 0]) (by kernel_rfl) (by kernel_rfl) (by kernel_rfl) (by kernel_rfl) fun G1 hl1 he1 hb1 ho1 => ?_
        refine Rk.adv 6 (by kernel_rfl) ?_
        -- LOOP
        refine Rk.inc p14 0 (by kernel_rfl) (by omega) ?_
        refine Rk.kn F61 [.code c61_20] (G1 ++
          [Blk.cells 1 36
              [AV.int IntKind.i64 1, AV.int IntKind.i64 7, AV.int IntKind.i64 0, AV.str a, AV.str [], AV.lst [],
                AV.int IntKind.i64 0, AV.int IntKind.i64 0, AV.int IntKind.i64 4, AV.int IntKind.i64 0, AV.int IntKind.i64 0,
                AV.str [], AV.str [], AV.sl 8 bl 0 (List.length ls), AV.int IntKind.i64 0, AV.int IntKind.i64 0],
            Blk.cells 1 36
              [AV.int IntKind.i64 1, AV.int IntKind.i64 7, AV.int IntKind.i64 0, AV.str a, AV.str [], AV.lst [],
                AV.int IntKind.i64 0, AV.int IntKind.i64 0, AV.int IntKind.i64 4, AV.int IntKind.i64 0, AV.int IntKind.i64 0,
                AV.str [], AV.str [], AV.sl 8 bl 0 (List.length ls), AV.int IntKind.i64 0, AV.int IntKind.i64 0]]) [(p14, .int .i64 (Int.ofNat (0 + 1))), (p12, .lst (Br.avs ts)), (p13, .int .i64 (Int.ofNat (Br.avs ts).length)), (p2, .ptr 0 0), (p3, .ptr 1 0)] [] (by kernel_rfl) (by kernel_rfl) (by kernel_rfl) (by kernel_rfl) (by kernel_rfl) (by kernel_rfl) ?_
        intro f3 hk3 _
        first
          | (subst h1; exact hi 1 (by omega) (by omega) f3 _ (Ou61.next (i := 0) (cs := []) (bo' := cl2 + 1) (e1 := [.int .i64 3, .int .i64 0, .int .i64 0, .str [], .str [], .sl 8 (cl + 2) 0 2, .int .i64 0, .int .i64 0]) hx (at_elder ((ho1 0 (by omega)).trans z2)) (at_elder hb1) (by omega) ((at_endn hl1).trans rfl) rfl FzB.nil rfl rfl (fzl_hd (b := cl + 2) (at_elder ((ho1 _ (by omega)).trans h8)) (by omega)) (fzl_vec (hvec.step (fun c k hc e => at_elder ((ho1 c (by omega)).trans e)) (fun c h1 h2 => by omega)))) hk3)
          | (subst h1; exact hi 1 (by omega) (by omega) f3 _ (Ou61.next (i := 0) (cs := []) (bo' := cl2 + 1) (e1 := sd 7 0 a) hx (at_elder ((ho1 0 (by omega)).trans z2)) (at_elder hb1) (by omega) ((at_endn hl1).trans rfl) rfl FzB.nil rfl rfl (fun _ _ => rfl) (fzl_vec (hvec.step (fun c k hc e => at_elder ((ho1 c (by omega)).trans e)) (fun c h1 h2 => by omega)))) hk3)
      · have k2 : C2[1]? = some (vc 5 (.sl 8 bo 0 (2 * i))) := hag 1 _ (by omega) (at_elder k1)
        have hbolt : bo < cl := by rw [← hcl]; exact (List.getElem?_eq_some_iff.1 hbc).1
        have k3 : C2[bo]? = some (.cells 1 36 cs) := hag bo _ (by omega) (at_elder hbc)
        have hne : (1 : Nat) ≠ bo := by omega
        have hmx : 2 * i + 2 ≤ mxLen := by unfold mxLen; omega
        refine Rk.adv 3 (by kernel_rfl) ?_
        refine Rk.loadE k2 (L := []) (n := 1) (ag := false) (o := 5) (v := AV.sl 8 bo 0 (2 * i)) (by kernel_rfl) (by kernel_rfl) (by kernel_rfl) ?_
        refine Rk.loadE h6 (L := []) (n := 8) (ag := true) (o := 0) (v := AV.agg
        [AV.int IntKind.i64 1, AV.int IntKind.i64 7, AV.int IntKind.i64 0, AV.str a, AV.str [], AV.lst [],
          AV.int IntKind.i64 0, AV.int IntKind.i64 0]) (by kernel_rfl) (by kernel_rfl) (by kernel_rfl) ?_
        refine Rk.loadE h7 (L := []) (n := 8) (ag := true) (o := 0) (v := AV.agg
        [AV.int IntKind.i64 4, AV.int IntKind.i64 0, AV.int IntKind.i64 0, AV.str [], AV.str [],
          AV.sl 8 bl 0 (List.length ls), AV.int IntKind.i64 0, AV.int IntKind.i64 0]) (by kernel_rfl) (by kernel_rfl) (by kernel_rfl) ?_
        refine Rk.bslice hcl2 (H := C2) (L := []) (ty := 36) (es := 8) (len := 1) (cs := [AV.int IntKind.i64 1, AV.int IntKind.i64 7, AV.int IntKind.i64 0, AV.str a, AV.str [], AV.lst [], AV.int IntKind.i64 0,
        AV.int IntKind.i64 0, AV.int IntKind.i64 4, AV.int IntKind.i64 0, AV.int IntKind.i64 0, AV.str [], AV.str [],
        AV.sl 8 bl 0 (List.length ls), AV.int IntKind.i64 0, AV.int IntKind.i64 0]) 0 (by kernel_rfl) (by kernel_rfl) (by kernel_rfl) ?_
        refine Rk.appendE hcl2 k3 hcs (ty := 36) (es := 8) (m := 2) (st := 1) (ty' := 36) (cs := [AV.int IntKind.i64 1, AV.int IntKind.i64 7, AV.int IntKind.i64 0, AV.str a, AV.str [], AV.lst [], AV.int IntKind.i64 0,
        AV.int IntKind.i64 0, AV.int IntKind.i64 4, AV.int IntKind.i64 0, AV.int IntKind.i64 0, AV.str [], AV.str [],
        AV.sl 8 bl 0 (List.length ls), AV.int IntKind.i64 0, AV.int IntKind.i64 0]) (cs' := [AV.int IntKind.i64 1, AV.int IntKind.i64 7, AV.int IntKind.i64 0, AV.str a, AV.str [], AV.lst [], AV.int IntKind.i64 0,
        AV.int IntKind.i64 0, AV.int IntKind.i64 4, AV.int IntKind.i64 0, AV.int IntKind.i64 0, AV.str [], AV.str [],
        AV.sl 8 bl 0 (List.length ls), AV.int IntKind.i64 0, AV.int IntKind.i64 0]) (new := [[AV.int IntKind.i64 1, AV.int IntKind.i64 7, AV.int IntKind.i64 0, AV.str a, AV.str [], AV.lst [],
          AV.int IntKind.i64 0, AV.int IntKind.i64 0],
        [AV.int IntKind.i64 4, AV.int IntKind.i64 0, AV.int IntKind.i64 0, AV.str [], AV.str [],
          AV.sl 8 bl 0 (List.length ls), AV.int IntKind.i64 0, AV.int IntKind.i64 0]]) (H := C2) (L := [Blk.cells 1 36
          [AV.int IntKind.i64 1, AV.int IntKind.i64 7, AV.int IntKind.i64 0, AV.str a, AV.str [], AV.lst [],
            AV.int IntKind.i64 0, AV.int IntKind.i64 0, AV.int IntKind.i64 4, AV.int IntKind.i64 0, AV.int IntKind.i64 0,
            AV.str [], AV.str [], AV.sl 8 bl 0 (List.length ls), AV.int IntKind.i64 0, AV.int IntKind.i64 0]]) hmx 1 0 (by kernel_rfl) (by kernel_rfl) (by kernel_rfl) (by kernel_rfl) (by kernel_rfl) (by kernel_rfl) (by kernel_rfl) (by kernel_rfl) fun G1 hl1 ho1 => ?_
        have k21 := (ho1 _ hne).trans k2
        refine Rk.adv 1 (by kernel_rfl) ?_
        refine Rk.storeE hl1 k21 (L := [Blk.cells 1 36
          [AV.int IntKind.i64 1, AV.int IntKind.i64 7, AV.int IntKind.i64 0, AV.str a, AV.str [], AV.lst [],
            AV.int IntKind.i64 0, AV.int IntKind.i64 0, AV.int IntKind.i64 4, AV.int IntKind.i64 0, AV.int IntKind.i64 0,
            AV.str [], AV.str [], AV.sl 8 bl 0 (List.length ls), AV.int IntKind.i64 0, AV.int IntKind.i64 0],
        Blk.cells 1 36
          (cs ++
            [AV.int IntKind.i64 1, AV.int IntKind.i64 7, AV.int IntKind.i64 0, AV.str a, AV.str [], AV.lst [],
              AV.int IntKind.i64 0, AV.int IntKind.i64 0, AV.int IntKind.i64 4, AV.int IntKind.i64 0, AV.int IntKind.i64 0,
              AV.str [], AV.str [], AV.sl 8 bl 0 (List.length ls), AV.int IntKind.i64 0, AV.int IntKind.i64 0])]) (n := 1) (o := 5) (v := AV.sl 8 (cl2 + 1) 0 (2 * i + 2)) ([AV.int IntKind.i64 5, AV.int IntKind.i64 0, AV.int IntKind.i64 0, AV.str [], AV.str [],
        AV.sl 8 (cl2 + 1) 0 (2 * i + 2), AV.int IntKind.i64 0, AV.int IntKind.i64 0]) (by kernel_rfl) (by kernel_rfl) (by kernel_rfl) (by kernel_rfl) fun G2 hl2 he2 hb2 ho2 => ?_
        refine Rk.adv 6 (by kernel_rfl) ?_
        -- LOOP
        refine Rk.inc p14 i (by kernel_rfl) (by omega) ?_
        refine Rk.kn F61 [.code c61_20] (G2 ++
          [Blk.cells 1 36
              [AV.int IntKind.i64 1, AV.int IntKind.i64 7, AV.int IntKind.i64 0, AV.str a, AV.str [], AV.lst [],
                AV.int IntKind.i64 0, AV.int IntKind.i64 0, AV.int IntKind.i64 4, AV.int IntKind.i64 0, AV.int IntKind.i64 0,
                AV.str [], AV.str [], AV.sl 8 bl 0 (List.length ls), AV.int IntKind.i64 0, AV.int IntKind.i64 0],
            Blk.cells 1 36
              (cs ++
                [AV.int IntKind.i64 1, AV.int IntKind.i64 7, AV.int IntKind.i64 0, AV.str a, AV.str [], AV.lst [],
                  AV.int IntKind.i64 0, AV.int IntKind.i64 0, AV.int IntKind.i64 4, AV.int IntKind.i64 0, AV.int IntKind.i64 0,
                  AV.str [], AV.str [], AV.sl 8 bl 0 (List.length ls), AV.int IntKind.i64 0, AV.int IntKind.i64 0])]) [(p14, .int .i64 (Int.ofNat (i + 1))), (p12, .lst (Br.avs ts)), (p13, .int .i64 (Int.ofNat (Br.avs ts).length)), (p2, .ptr 0 0), (p3, .ptr 1 0)] [] (by kernel_rfl) (by kernel_rfl) (by kernel_rfl) (by kernel_rfl) (by kernel_rfl) (by kernel_rfl) ?_
        intro f3 hk3 _
        first
          | (subst h1; exact hi (i + 1) (by omega) (by omega) f3 _ (Ou61.next (bo' := cl2 + 1) (e1 := [.int .i64 3, .int .i64 0, .int .i64 0, .str [], .str [], .sl 8 (cl + 2) 0 2, .int .i64 0, .int .i64 0]) hx (at_elder ((ho2 0 (by omega)).trans ((ho1 0 (by omega)).trans z2))) (at_elder hb2) (by omega) ((at_endn hl2).trans rfl) hcs (hfz.step (fun c k hc e => by have hc2 := (List.getElem?_eq_some_iff.1 e).1; exact at_elder ((ho2 c (by omega)).trans ((ho1 c (by omega)).trans (hag c _ (by omega) (at_elder e))))) (fun c h1 h2 => by omega)) rfl rfl (fzl_hd (b := cl + 2) (at_elder ((ho2 _ (by omega)).trans ((ho1 _ (by omega)).trans h8))) (by omega)) (fzl_vec (hvec.step (fun c k hc e => at_elder ((ho2 c (by omega)).trans ((ho1 c (by omega)).trans e))) (fun c h1 h2 => by omega)))) hk3)
          | (subst h1; exact hi (i + 1) (by omega) (by omega) f3 _ (Ou61.next (bo' := cl2 + 1) (e1 := sd 7 0 a) hx (at_elder ((ho2 0 (by omega)).trans ((ho1 0 (by omega)).trans z2))) (at_elder hb2) (by omega) ((at_endn hl2).trans rfl) hcs (hfz.step (fun c k hc e => by have hc2 := (List.getElem?_eq_some_iff.1 e).1; exact at_elder ((ho2 c (by omega)).trans ((ho1 c (by omega)).trans (hag c _ (by omega) (at_elder e))))) (fun c h1 h2 => by omega)) rfl rfl (fun _ _ => rfl) (fzl_vec (hvec.step (fun c k hc e => at_elder ((ho2 c (by omega)).trans ((ho1 c (by omega)).trans e))) (fun c h1 h2 => by omega)))) hk3)
theorem w61_res {f : Fr} {H : Hp} {X : AV} {ws : List (List AV)} (hf : f.get p2 = some (.ptr 0 0)) (hb : H[0]? = some (vc 5 X)) (hX : frz false H 0 7 X = some (.lst ws)) : (evRes f H F61.results).bind (frz false H 0 8) = some (.agg (nd 5 0 0 [] [] ws)) := by
  have : F61.results = [.cell p2 8 true] := rfl
  have e (v : AV) (hv : EV.hf v = true) (hn : frz false H 0 7 v = if EV.hf v then some v else none) : frz false H 0 7 v = some v := by rw [hn, if_pos hv]
  simp only [this, evRes, optL, evRes1, hf, evLoad, hb, ldc]
  simp only [List.length_cons, List.length_nil, Nat.zero_add, Nat.reduceAdd, Nat.le_refl, if_true, List.drop_zero, List.take_succ_cons, List.take_zero, Option.map_some, Option.bind_some, frz, optL]
  rw [hX]
  simp [EV.hf]
set_option maxHeartbeats 4000000 in
theorem w61_at {fs : Nat → Option CF} {pr : Nat → List AV → Hp → Option (AV × Hp)} (hh : Has (E3 fs pr) 61 F61) (h98 : Has (E3 fs pr) 98 F98) (ts : List Br) (hts : ts.length ≤ 10000) (hfw : Br.fws ts)
    (ih : ∀ (i : Nat) (a : List Nat) (b : Bool) (ls : List Lf) (k : Nat) (kd n : Int) (s : List Nat) (t : List Br), ts[i]? = some (.mk a b ls) → ls[k]? = some (.mk kd n s true t) → ∀ H, Cl (E3 fs pr) (.fn 61 []) [.lst (Br.avs t)] H (.agg (nodeOf t)) H) : ∀ H, Cl (E3 fs pr) (.fn 61 []) [.lst (Br.avs ts)] H (.agg (nodeOf ts)) H := by
  intro H
  refine Cl.frozen hh _ rfl rfl rfl (by kernel_rfl) ?_
  refine Rk.adv 18 (by kernel_rfl) ?_
  -- LOOP
  refine Rk.kn F61 [.code c61_20, .blk 0, .code (.seq c61_21 .ret)] [zc, vc 5 .nils] [(p14, .int .i64 (Int.ofNat 0)), (p12, .lst (Br.avs ts)), (p13, .int .i64 (Int.ofNat (Br.avs ts).length)), (p2, .ptr 0 0), (p3, .ptr 1 0)] [] (by kernel_rfl) (by kernel_rfl) (by kernel_rfl) (by kernel_rfl) (by kernel_rfl) (by kernel_rfl) ?_
  intro f1 hk1 _
  refine Rk.trans (c := [.code c61_20]) (k := [.blk 0, .code (.seq c61_21 .ret)]) ((w61_out h98 hts hfw ih _ 0 rfl (Nat.zero_le _) f1 _ ⟨rfl, .inl ⟨rfl, rfl⟩⟩ hk1).weak ?_)
  rintro _ f2 C2 ⟨rfl, hO, hk2⟩
  obtain ⟨g2, rfl⟩ := hk2.gen
  have hz := hO.z
  obtain ⟨cl, hcl⟩ : ∃ cl, C2.length = cl := ⟨_, rfl⟩
  clear ih h98
  rw [← List.append_nil C2]
  rcases hO.kids with ⟨h0, k1⟩ | ⟨bo, cs, hbo, k1, hbc, hcs, hfz⟩
  · have hnil : Br.nds ts = [] := by rw [List.length_eq_zero_iff.1 h0]; rfl
    have hN : nodeOf ts = nd 5 0 0 [] [] [] := by unfold nodeOf; rw [hnil]
    rw [hN]
    refine Rk.adv 3 (by kernel_rfl) ?_
    refine Rk.loadE k1 (L := []) (n := 8) (ag := true) (o := 0) (v := AV.agg
    [AV.int IntKind.i64 5, AV.int IntKind.i64 0, AV.int IntKind.i64 0, AV.str [], AV.str [], AV.nils,
      AV.int IntKind.i64 0, AV.int IntKind.i64 0]) (by kernel_rfl) (by kernel_rfl) (by kernel_rfl) ?_
    refine Rk.storeE hcl hz (L := []) (n := 8) (o := 0) (v := AV.agg
    [AV.int IntKind.i64 5, AV.int IntKind.i64 0, AV.int IntKind.i64 0, AV.str [], AV.str [], AV.nils,
      AV.int IntKind.i64 0, AV.int IntKind.i64 0]) ([AV.int IntKind.i64 5, AV.int IntKind.i64 0, AV.int IntKind.i64 0, AV.str [], AV.str [], AV.nils, AV.int IntKind.i64 0,
    AV.int IntKind.i64 0]) (by kernel_rfl) (by kernel_rfl) (by kernel_rfl) (by kernel_rfl) fun G1 hl1 he1 hb1 ho1 => ?_
    refine Rk.adv 2 (by kernel_rfl) ?_
    -- FIN
    refine Rk.doneK F61 .ret (G1 ++ []) [(p2, .ptr 0 0)] [] (by kernel_rfl) (by kernel_rfl) (by kernel_rfl) (by kernel_rfl) (by kernel_rfl) (by kernel_rfl) ?_
    intro f3 hk3 _
    exact ⟨rfl, w61_res hk3.2.1 (at_elder hb1) rfl⟩
  · rw [List.take_length] at hfz
    have hF : FzV C2 (fun c => c < 2) 7 (.sl 8 bo 0 (2 * ts.length)) (.lst (Br.nds ts)) := FzV.sl hbc (by omega) (by omega) (hfz.step (Ag.refl _ _) fun c _ h => .inl h)
    refine Rk.adv 3 (by kernel_rfl) ?_
    refine Rk.loadE k1 (L := []) (n := 8) (ag := true) (o := 0) (v := AV.agg
    [AV.int IntKind.i64 5, AV.int IntKind.i64 0, AV.int IntKind.i64 0, AV.str [], AV.str [],
      AV.sl 8 bo 0 (2 * List.length ts), AV.int IntKind.i64 0, AV.int IntKind.i64 0]) (by kernel_rfl) (by kernel_rfl) (by kernel_rfl) ?_
    refine Rk.storeE hcl hz (L := []) (n := 8) (o := 0) (v := AV.agg
    [AV.int IntKind.i64 5, AV.int IntKind.i64 0, AV.int IntKind.i64 0, AV.str [], AV.str [],
      AV.sl 8 bo 0 (2 * List.length ts), AV.int IntKind.i64 0, AV.int IntKind.i64 0]) ([AV.int IntKind.i64 5, AV.int IntKind.i64 0, AV.int IntKind.i64 0, AV.str [], AV.str [],
    AV.sl 8 bo 0 (2 * List.length ts), AV.int IntKind.i64 0, AV.int IntKind.i64 0]) (by kernel_rfl) (by kernel_rfl) (by kernel_rfl) (by kernel_rfl) fun G1 hl1 he1 hb1 ho1 => ?_
    refine Rk.adv 2 (by kernel_rfl) ?_
    -- FIN
    refine Rk.doneK F61 .ret (G1 ++ []) [(p2, .ptr 0 0)] [] (by kernel_rfl) (by kernel_rfl) (by kernel_rfl) (by kernel_rfl) (by kernel_rfl) (by kernel_rfl) ?_
    intro f3 hk3 _
    exact ⟨rfl, w61_res hk3.2.1 (at_elder hb1) (hF _ fun c k hc e => at_elder ((ho1 c (by omega)).trans e))⟩
theorem w61 {fs : Nat → Option CF} {pr : Nat → List AV → Hp → Option (AV × Hp)} (hh : Has (E3 fs pr) 61 F61) (h98 : Has (E3 fs pr) 98 F98) : ∀ (z : Nat) (ts : List Br), SizeOf.sizeOf ts < z → ts.length ≤ 10000 → Br.fws ts → ∀ H, Cl (E3 fs pr) (.fn 61 []) [.lst (Br.avs ts)] H (.agg (nodeOf ts)) H := by
  intro z
  induction z with
  | zero => intro ts h; omega
  | succ z hi =>
    intro ts h h1 h2
    exact w61_at hh h98 ts h1 h2 fun i a b ls k kd n s t e1 e2 => by
      have q1 := Br.fws_at h2 e1
      have q2 := Lf.fws_at q1.2.2 e2
      have := sub_lt e1 e2
      exact hi t (by omega) q2.1 q2.2
end Go.EV
