/- A node's tree. -/
import Derived.Test.YtkcabichlinkmaaGreatDoorHCd3a
import Derived.Test.YtkcabichlinkmaaGreatDoorHCd3b
import Derived.Test.YtkcabichlinkmaaGreatDoorHTT
import Derived.Test.YtkcabichlinkmaaGreatDoorHPB
import Derived.Test.YtkcabichlinkmaaGreatDoorHW61
import Derived.Test.YtkcabichlinkmaaGreatDoorHWA
import Derived.Test.YtkcabichlinkmaaGreatDoorHMM
namespace Go.EV
set_option maxRecDepth 100000
set_option maxHeartbeats 4000000 in
theorem l100_no {E : Env} (h : Has E 100 F100) (k n : Int) (s : List Nat) (d : Nat) : FnC E 100 [.agg (sd k n s), .int .i64 (Int.ofNat d)] (.tup [.agg [.int .i64 k, .int .i64 n, .str s, .bool false, .lst []], .bool true]) := by
  refine FnC.of h rfl (by kernel_rfl) (by kernel_rfl) ?_
  refine Pk.adv 24 (by kernel_rfl) ?_
  refine Pk.fin (v' := AV.tup [AV.agg [AV.int IntKind.i64 k, AV.int IntKind.i64 n, AV.str s, AV.bool false, AV.lst []], AV.bool true]) (by kernel_rfl) (by kernel_rfl) (by kernel_rfl) ?_
  rfl
set_option maxHeartbeats 4000000 in
theorem l100_yes {E : Env} (h : Has E 100 F100) (k n : Int) (s : List Nat) (d : Nat) (t : List Br) (hd : d < 20) (hr : FnC E 62 [.agg (nodeOf t), .int .i64 (Int.ofNat (d + 1))] (.tup [.lst (Br.avs t), .bool true])) : FnC E 100 [.agg (nd 3 0 0 [] [] [sd k n s, nodeOf t]), .int .i64 (Int.ofNat d)] (.tup [.agg [.int .i64 k, .int .i64 n, .str s, .bool true, .lst (Br.avs t)], .bool true]) := by
  refine FnC.of h rfl (by kernel_rfl) (by kernel_rfl) ?_
  have e : Int.ofNat (d + 1) = IntKind.i64.wrap (Int.ofNat d + 1) := (wrap_succ (by omega)).symm
  rw [e] at hr
  clear e
  refine Pk.adv 33 (by kernel_rfl) ?_
  refine Pk.call0 (g := CX.c (AV.fn 62 [])) (args := [CX.t p23, CX.t p25]) (k := 62) (caps := []) (as := [AV.agg
    [AV.int IntKind.i64 5, AV.int IntKind.i64 0, AV.int IntKind.i64 0, AV.str [], AV.str [], AV.lst (Br.nds t),
      AV.int IntKind.i64 0, AV.int IntKind.i64 0],
  AV.int IntKind.i64 (IntKind.wrap IntKind.i64 (Int.ofNat d + 1))]) (vs := [AV.agg
    [AV.int IntKind.i64 5, AV.int IntKind.i64 0, AV.int IntKind.i64 0, AV.str [], AV.str [], AV.lst (Br.nds t),
      AV.int IntKind.i64 0, AV.int IntKind.i64 0],
  AV.int IntKind.i64 (IntKind.wrap IntKind.i64 (Int.ofNat d + 1))]) (v := AV.tup [AV.lst (Br.avs t), AV.bool true]) (by kernel_rfl) (by kernel_rfl) (by kernel_rfl) (by kernel_rfl) (by kernel_rfl) (by kernel_rfl) (by kernel_rfl) (hr) ?_
  refine Pk.adv 20 (by kernel_rfl) ?_
  refine Pk.fin (v' := AV.tup [AV.agg [AV.int IntKind.i64 k, AV.int IntKind.i64 n, AV.str s, AV.bool true, AV.lst (Br.avs t)], AV.bool true]) (by kernel_rfl) (by kernel_rfl) (by kernel_rfl) ?_
  rfl
/-- The blocks of a tree's reading, ahead of the range. -/
abbrev b62 (ts : List Br) (d : Nat) (out : AV) : List Blk := [.cells 1 36 (nodeOf ts), .cells 1 3 [.int .i64 (Int.ofNat d)], .cells 1 58 [.nils], .cells 1 4 [.bool false], .cells 1 58 [out], .cells 1 29 [.lst (Br.nds ts)], .cells 1 3 [.int .i64 2]]
abbrev kk62 : List (Pth × AV) := [(p2, .ptr 0 0), (p3, .ptr 1 0), (p4, .ptr 2 0), (p5, .ptr 3 0), (p6, .ptr 4 0), (p31, .fn 143 [.ptr 5 0, .ptr 6 0])]
abbrev bd62 : CC := .blk 1 (.seq c62_6 (.seq c62_7 (.seq (.seq c62_8 (.cond (.t p51) c62_9 .skip)) (.seq (.seq c62_10 (.blk 2 c62_18)) c62_19))))
abbrev lp62 (n : Nat) : Blk := .loop n .norm (fr F62 kk62) [p32] c62_5 bd62
theorem nds_len2 (ts : List Br) : (Br.nds ts).length = 2 * ts.length := by
  induction ts with
  | nil => rfl
  | cons x r ih =>
    cases x
    simp only [Br.nds, Br.nd2, List.length_append, List.length_cons, List.length_nil, ih]
    omega
theorem nds_drop {ts : List Br} : ∀ {i : Nat} {a : List Nat} {b : Bool} {ls : List Lf}, ts[i]? = some (.mk a b ls) → ∃ r, (Br.nds ts).drop (2 * i) = hdOf a b :: nd 4 0 0 [] [] (Lf.nds ls) :: r := by
  induction ts with
  | nil => intro i a b ls h; simp at h
  | cons x r ih =>
    intro i a b ls h
    cases i with
    | zero => simp at h; subst h; exact ⟨_, rfl⟩
    | succ i =>
      obtain ⟨q, hq⟩ := ih (by simpa using h)
      cases x
      refine ⟨q, ?_⟩
      rw [← hq]
      show (hdOf _ _ :: _ :: Br.nds r).drop (2 * (i + 1)) = _
      rw [show 2 * (i + 1) = 2 * i + 1 + 1 by omega]
      rfl
theorem nds_head (ts : List Br) : headOk 8 (Br.nds ts) = true := by
  cases ts with
  | nil => rfl
  | cons x r =>
    obtain ⟨a, b, l⟩ := x
    cases b <;> rfl
theorem Br.avs_snoc {ts : List Br} {i : Nat} {x : Br} (h : ts[i]? = some x) : Br.avs (ts.take (i + 1)) = Br.avs (ts.take i) ++ [x.av] := by
  rw [Br.avs_map, Br.avs_map, List.take_add_one, h]; simp
theorem Lf.avs_snoc {ts : List Lf} {i : Nat} {x : Lf} (h : ts[i]? = some x) : Lf.avs (ts.take (i + 1)) = Lf.avs (ts.take i) ++ [x.av] := by
  rw [Lf.avs_map, Lf.avs_map, List.take_add_one, h]; simp
theorem Br.avs_head (ts : List Br) : headOk 3 (Br.avs ts) = true := by
  cases ts with
  | nil => rfl
  | cons x r => cases x; rfl
theorem Lf.avs_head (ts : List Lf) : headOk 5 (Lf.avs ts) = true := by
  cases ts with
  | nil => rfl
  | cons x r => cases x; rfl
theorem Lf.nd_form (x : Lf) : ∃ k vk vn vs s ks, x.nd = EV.nd k vk vn vs s ks := by
  obtain ⟨k, n, s, i, t⟩ := x
  cases i with
  | false => exact ⟨_, _, _, _, _, _, rfl⟩
  | true => exact ⟨_, _, _, _, _, _, rfl⟩
abbrev h62 (ts : List Br) (d i : Nat) (a : List Nat) (b : Bool) (ls : List Lf) (lv : AV) : List Blk := b62 ts d (.own 84 74 (Br.avs (ts.take i))) ++ [lp62 1, .dead, .cells 1 36 (nd 4 0 0 [] [] (Lf.nds ls)), .cells 1 74 [.str a, .bool b, lv]]
abbrev k62i (ls : List Lf) (k : Nat) : List (Pth × AV) := [(p2, .ptr 0 0), (p3, .ptr 1 0), (p4, .ptr 2 0), (p5, .ptr 3 0), (p6, .ptr 4 0), (p31, .fn 143 [.ptr 5 0, .ptr 6 0]), (p10, .ptr 10 0), (p60, .lst (Lf.nds ls)), (p61, .int .i64 (Int.ofNat (Lf.nds ls).length)), (p62, .int .i64 (Int.ofNat k))]
set_option maxHeartbeats 4000000 in
/-- The leaves. -/
theorem i62 {E : Env} (ts : List Br) (d : Nat) {i : Nat} {a : List Nat} (b : Bool) {ls : List Lf} (hi : i ≤ 10000) (hls : ls.length ≤ 10000) (hx : ts[i]? = some (.mk a b ls)) (hts : ts.length ≤ 10000)
    (hlf : ∀ x, x ∈ ls → FnC E 100 [.agg x.nd, .int .i64 (Int.ofNat d)] (.tup [.agg x.av, .bool true])) {R : AV → Hp → Prop} (hR : R (.bool true) (b62 ts d (.own 84 74 (Br.avs (ts.take (i + 1)))) ++ [lp62 0])) :
    Pk E 8 ⟨[.code c62_18, .blk 2, .code c62_19, .blk 1], .norm, fr F62 (k62i ls 0), h62 ts d i a b ls .nils⟩ fun e _ H2 => ∃ e4 f4 ps4 a4 b4, H2[7]? = some (.loop 1 e4 f4 ps4 a4 b4) ∧ YR R e 7 f4 ps4 a4 b4 H2 := by
  refine Pk.nilH 10 2 78 76 (H := h62 ts d i a b ls (.own 78 76 (Lf.avs (ls.take 0)))) rfl rfl rfl rfl ?_
  refine Pk.up (fun k => ⟨[.code c62_18, .blk 2, .code c62_19, .blk 1], .norm, fr F62 (k62i ls k), h62 ts d i a b ls (.own 78 76 (Lf.avs (ls.take k)))⟩) ls.length ?_ ?_
  · intro k hk ih
    have hlt : decide (Int.ofNat k < Int.ofNat (Lf.nds ls).length) = true := by rw [Lf.nds_map, List.length_map]; simp; omega
    obtain ⟨x, hxk⟩ : ∃ x, ls[k]? = some x := ⟨_, List.getElem?_eq_getElem hk⟩
    have hc := hlf x (List.mem_of_getElem? hxk)
    have hs := Lf.avs_snoc hxk
    obtain ⟨q1, q2, q3, q4, q5, q6, hq⟩ := x.nd_form
    have hn : (Lf.nds ls)[k]? = some x.nd := by rw [Lf.nds_map, List.getElem?_map, hxk]; rfl
    rw [hq] at hc hn
    have hh := Lf.avs_head (ls.take k)
    have hm : (Lf.avs (ls.take k)).length + 1 ≤ mxLen := by rw [Lf.len, List.length_take]; unfold mxLen; omega
    obtain ⟨kd, nn, s, j, t⟩ := x
    replace hc : FnC E 100 [.agg (nd q1 q2 q3 q4 q5 q6), .int .i64 (Int.ofNat d)] (.tup [.agg [.int .i64 kd, .int .i64 nn, .str s, .bool j, .lst (Br.avs t)], .bool true]) := hc
    clear hlf
    refine Pk.adv 6 (by kernel_rfl) ?_
    refine Pk.know p63 (decide (Int.ofNat k < Int.ofNat (List.length (Lf.nds ls)))) true (by kernel_rfl) hlt ?_
    refine Pk.adv 6 (by kernel_rfl) ?_
    refine Pk.iaddr (es := 8) (x := CX.t p60) (i := CX.t p62) (l := Lf.nds ls) (q := IntKind.i64) (n := k) (c := [AV.int IntKind.i64 q1, AV.int IntKind.i64 q2, AV.int IntKind.i64 q3, AV.str q4, AV.str q5, AV.lst q6,
    AV.int IntKind.i64 0, AV.int IntKind.i64 0]) (by kernel_rfl) (by kernel_rfl) (by kernel_rfl) (by kernel_rfl) hn (by kernel_rfl) ?_
    refine Pk.adv 8 (by kernel_rfl) ?_
    refine Pk.call0 (g := CX.c (AV.fn 100 [])) (args := [CX.t p67, CX.t p68]) (k := 100) (caps := []) (as := [AV.agg
      [AV.int IntKind.i64 q1, AV.int IntKind.i64 q2, AV.int IntKind.i64 q3, AV.str q4, AV.str q5, AV.lst q6,
        AV.int IntKind.i64 0, AV.int IntKind.i64 0],
    AV.int IntKind.i64 (Int.ofNat d)]) (vs := [AV.agg
      [AV.int IntKind.i64 q1, AV.int IntKind.i64 q2, AV.int IntKind.i64 q3, AV.str q4, AV.str q5, AV.lst q6,
        AV.int IntKind.i64 0, AV.int IntKind.i64 0],
    AV.int IntKind.i64 (Int.ofNat d)]) (v := AV.tup [AV.agg [AV.int IntKind.i64 kd, AV.int IntKind.i64 nn, AV.str s, AV.bool j, AV.lst (Br.avs t)], AV.bool true]) (by kernel_rfl) (by kernel_rfl) (by kernel_rfl) (by kernel_rfl) (by kernel_rfl) (by kernel_rfl) (by kernel_rfl) (hc) ?_
    refine Pk.adv 20 (by kernel_rfl) ?_
    refine Pk.app1 (ty := 76) (es := 5) (a := CX.t p75) (x := CX.t p77) (tk := some (78, 76)) (l := Lf.avs (List.take k ls)) (new := [[AV.int IntKind.i64 kd, AV.int IntKind.i64 nn, AV.str s, AV.bool j, AV.lst (Br.avs t)]]) 78 (by kernel_rfl) (by kernel_rfl) (by kernel_rfl) (by kernel_rfl) (by kernel_rfl) hh (by kernel_rfl) hm ?_
    refine Pk.adv 8 (by kernel_rfl) ?_
    -- LOOP
    refine Pk.inc p62 k (by kernel_rfl) (by omega) ?_
    refine Pk.cut 11 (Nat.le_of_ble_eq_true (by kernel_rfl)) (by kernel_rfl) ?_
    refine Pk.kn F62 [.code c62_18, .blk 2, .code c62_19, .blk 1] (h62 ts d i a b ls (.own 78 76 (Lf.avs (ls.take k) ++ [Lf.av (.mk kd nn s j t)]))) (k62i ls (k + 1)) (by kernel_rfl) (by kernel_rfl) (by kernel_rfl) (by kernel_rfl) (by kernel_rfl) (by kernel_rfl) ?_
    rw [← hs]
    exact ih
  · have hlt : decide (Int.ofNat ls.length < Int.ofNat (Lf.nds ls).length) = false := by rw [Lf.nds_map, List.length_map]; simp
    have hh := Br.avs_head (ts.take i)
    have hm : (Br.avs (ts.take i)).length + 1 ≤ mxLen := by rw [Br.len, List.length_take]; unfold mxLen; omega
    have hs := Br.avs_snoc hx
    rw [List.take_length]
    clear hlf
    refine Pk.adv 6 (by kernel_rfl) ?_
    refine Pk.know p63 (decide (Int.ofNat (List.length ls) < Int.ofNat (List.length (Lf.nds ls)))) false (by kernel_rfl) hlt ?_
    refine Pk.adv 9 (by kernel_rfl) ?_
    refine Pk.app1 (ty := 74) (es := 3) (a := CX.t p81) (x := CX.t p83) (tk := some (84, 74)) (l := Br.avs (List.take i ts)) (new := [[AV.str a, AV.bool b, AV.lst (Lf.avs ls)]]) 84 (by kernel_rfl) (by kernel_rfl) (by kernel_rfl) (by kernel_rfl) (by kernel_rfl) hh (by kernel_rfl) hm ?_
    refine Pk.adv 3 (by kernel_rfl) ?_
    -- FIN
    refine Pk.cut 8 (Nat.le_of_ble_eq_true (by kernel_rfl)) (by kernel_rfl) ?_
    refine Pk.doneK F62 .norm (b62 ts d (.own 84 74 (Br.avs (ts.take i) ++ [Br.av (.mk a b ls)])) ++ [lp62 1]) [] (by kernel_rfl) (by kernel_rfl) (by kernel_rfl) (by kernel_rfl) (by kernel_rfl) ?_
    refine ⟨.norm, fr F62 kk62, [p32], c62_5, bd62, rfl, ?_⟩
    rw [← hs]
    exact hR
set_option maxHeartbeats 4000000 in
/-- One pair of nodes is read. -/
theorem y62 {E : Env} (ts : List Br) (d : Nat) {i : Nat} {a : List Nat} {b : Bool} {ls : List Lf} (hi : i ≤ 10000) (hls : ls.length ≤ 10000) (hx : ts[i]? = some (.mk a b ls)) (hts : ts.length ≤ 10000)
    (hlf : ∀ x, x ∈ ls → FnC E 100 [.agg x.nd, .int .i64 (Int.ofNat d)] (.tup [.agg x.av, .bool true])) :
    PCl E (.yld 7) [.lst [hdOf a b, nd 4 0 0 [] [] (Lf.nds ls)]] (b62 ts d (.own 84 74 (Br.avs (ts.take i))) ++ [lp62 0]) fun v H' => v = .bool true ∧ H' = b62 ts d (.own 84 74 (Br.avs (ts.take (i + 1)))) ++ [lp62 0] := by
  refine PCl.yld (l := 7) (e0 := .norm) (f0 := fr F62 kk62) (ps := [p32]) (a := c62_5) (b := bd62) (f1 := (fr F62 kk62).set p32 (.lst [hdOf a b, nd 4 0 0 [] [] (Lf.nds ls)])) rfl rfl ?_
  refine Pk.adv 3 (by kernel_rfl) ?_
  -- FIN
  refine Pk.doneK F62 .norm (b62 ts d (.own 84 74 (Br.avs (ts.take i))) ++ [lp62 0]) [(p2, .ptr 0 0), (p3, .ptr 1 0), (p4, .ptr 2 0), (p5, .ptr 3 0), (p6, .ptr 4 0), (p31, .fn 143 [.ptr 5 0, .ptr 6 0]), (p7, .lst [hdOf a b, nd 4 0 0 [] [] (Lf.nds ls)])] (by kernel_rfl) (by kernel_rfl) (by kernel_rfl) (by kernel_rfl) (by kernel_rfl) ?_
  refine ⟨rfl, .norm, fr F62 kk62, [p32], c62_5, bd62, rfl, ?_⟩
  have hin := i62 ts d b hi hls hx hts hlf (R := fun v H' => v = .bool true ∧ H' = b62 ts d (.own 84 74 (Br.avs (ts.take (i + 1)))) ++ [lp62 0]) ⟨rfl, rfl⟩
  clear hlf
  cases b with
  | false =>
    refine Pk.adv 47 (by kernel_rfl) ?_
    -- LOOP
    refine Pk.drop 8 (H := h62 ts d i a false ls .nils) (by kernel_rfl) (by kernel_rfl) ?_
    refine Pk.kn F62 [.code c62_18, .blk 2, .code c62_19, .blk 1] (h62 ts d i a false ls .nils) (k62i ls 0) (by kernel_rfl) (by kernel_rfl) (by kernel_rfl) (by kernel_rfl) (by kernel_rfl) (by kernel_rfl) ?_
    exact hin
  | true =>
    refine Pk.adv 56 (by kernel_rfl) ?_
    -- LOOP
    refine Pk.drop 8 (H := h62 ts d i a true ls .nils) (by kernel_rfl) (by kernel_rfl) ?_
    refine Pk.kn F62 [.code c62_18, .blk 2, .code c62_19, .blk 1] (h62 ts d i a true ls .nils) (k62i ls 0) (by kernel_rfl) (by kernel_rfl) (by kernel_rfl) (by kernel_rfl) (by kernel_rfl) (by kernel_rfl) ?_
    exact hin
abbrev kk143 (i : Nat) : List (Pth × AV) := [(p0, .yld 7), (p1, .ptr 5 0), (p2, .ptr 6 0), (p4, .int .i64 (Int.ofNat (2 * i)))]
theorem wrap_two {n : Nat} (h : n ≤ 100000) : IntKind.i64.wrap (Int.ofNat n + 2) = Int.ofNat (n + 2) := by
  simp only [IntKind.wrap, IntKind.bits, IntKind.signed]
  simp
  omega
set_option maxHeartbeats 4000000 in
/-- The pairs, one by one. -/
theorem w143 {E : Env} (h143 : Has E 143 F143) (ts : List Br) (d : Nat) (hts : ts.length ≤ 10000) (hls : ∀ (i : Nat) (a : List Nat) (b : Bool) (ls : List Lf), ts[i]? = some (.mk a b ls) → ls.length ≤ 10000)
    (hlf : ∀ (i : Nat) (a : List Nat) (b : Bool) (ls : List Lf), ts[i]? = some (.mk a b ls) → ∀ x, x ∈ ls → FnC E 100 [.agg x.nd, .int .i64 (Int.ofNat d)] (.tup [.agg x.av, .bool true])) :
    PCl E (.fn 143 [.ptr 5 0, .ptr 6 0]) [.yld 7] (b62 ts d (.own 84 74 (Br.avs (ts.take 0))) ++ [lp62 0]) fun _ H' => H' = b62 ts d (.own 84 74 (Br.avs (ts.take ts.length))) ++ [lp62 0] := by
  refine PCl.of h143 rfl (by kernel_rfl) ?_
  refine Pk.adv 5 (by kernel_rfl) ?_
  -- LOOP
  refine Pk.kn F143 [.code c143_5, .blk 0] (b62 ts d (.own 84 74 (Br.avs (ts.take 0))) ++ [lp62 0]) (kk143 0) (by kernel_rfl) (by kernel_rfl) (by kernel_rfl) (by kernel_rfl) (by kernel_rfl) (by kernel_rfl) ?_
  refine Pk.up (fun i => ⟨[.code c143_5, .blk 0], .norm, fr F143 (kk143 i), b62 ts d (.own 84 74 (Br.avs (ts.take i))) ++ [lp62 0]⟩) ts.length ?_ ?_
  · intro i hi ih
    have hlt : decide (Int.ofNat (2 * i) < Int.ofNat (Br.nds ts).length) = true := by rw [nds_len2]; simp; omega
    obtain ⟨⟨a, b, ls⟩, hx⟩ : ∃ x, ts[i]? = some x := ⟨_, List.getElem?_eq_getElem hi⟩
    obtain ⟨r, hr⟩ := nds_drop hx
    have hlen := congrArg List.length hr
    rw [List.length_drop, nds_len2, List.length_cons, List.length_cons] at hlen
    have s1 : evSlice 8 (.lst (Br.nds ts)) (2 * i) (Br.nds ts).length none = some (.lst (hdOf a b :: nd 4 0 0 [] [] (Lf.nds ls) :: r)) := slice_of (nds_head ts) (by rw [nds_len2]; omega) (Nat.le_refl _) (by rw [← hr, List.take_of_length_le (by rw [List.length_drop]; omega)])
    have s2 : evSlice 8 (.lst (Br.nds ts)) (2 * i) (2 * i + 2) (some (2 * i + 2)) = some (.lst [hdOf a b, nd 4 0 0 [] [] (Lf.nds ls)]) := slice_of3 (nds_head ts) (by omega) (Nat.le_refl _) (by rw [nds_len2]; omega) (by rw [hr, show 2 * i + 2 - 2 * i = 2 by omega]; rfl)
    have hmin : (if Int.ofNat (List.length (hdOf a b :: nd 4 0 0 [] [] (Lf.nds ls) :: r)) < (2 : Int) then Int.ofNat (List.length (hdOf a b :: nd 4 0 0 [] [] (Lf.nds ls) :: r)) else 2) = 2 := by rw [if_neg]; simp; omega
    have hw := wrap_two (n := 2 * i) (by omega)
    have hy := y62 ts d (by omega) (hls i a b ls hx) hx hts (hlf i a b ls hx)
    clear hlf hls
    have hw2 : IntKind.i64.wrap (Int.ofNat (2 * i) + 2) = Int.ofNat (2 * (i + 1)) := hw
    refine Pk.adv 9 (by kernel_rfl) ?_
    refine Pk.know p9 (decide (Int.ofNat (2 * i) < (↑(List.length (Br.nds ts)) : Int))) true (by kernel_rfl) hlt ?_
    refine Pk.adv 9 (by kernel_rfl) ?_
    refine Pk.slice (es := 8) (x := CX.t p14) (lo := some (CX.t p15)) (hi := none) (mx := none) (xv := AV.lst (Br.nds ts)) (n := List.length (Br.nds ts)) (la := 2 * i) (ha := List.length (Br.nds ts)) (mv := none) (v := AV.lst (hdOf a b :: nd 4 0 0 [] [] (Lf.nds ls) :: r)) (by kernel_rfl) (by kernel_rfl) (by kernel_rfl) (by kernel_rfl) (by kernel_rfl) (by kernel_rfl) (by kernel_rfl) s1 ?_
    refine Pk.adv 15 (by kernel_rfl) ?_
    refine Pk.knowI p24 (IntKind.wrap IntKind.i64
    (Int.ofNat (2 * i) +
      if false = true then
        if (↑(List.length (hdOf a b :: nd 4 0 0 [] [] (Lf.nds ls) :: r)) : Int) > 2 then
          (↑(List.length (hdOf a b :: nd 4 0 0 [] [] (Lf.nds ls) :: r)) : Int)
        else 2
      else
        if (↑(List.length (hdOf a b :: nd 4 0 0 [] [] (Lf.nds ls) :: r)) : Int) < 2 then
          (↑(List.length (hdOf a b :: nd 4 0 0 [] [] (Lf.nds ls) :: r)) : Int)
        else 2)) (Int.ofNat (2 * i + 2)) (by kernel_rfl) hw ?_
    refine Pk.knowI p27 (IntKind.wrap IntKind.i64
    (Int.ofNat (2 * i) +
      if false = true then
        if (↑(List.length (hdOf a b :: nd 4 0 0 [] [] (Lf.nds ls) :: r)) : Int) > 2 then
          (↑(List.length (hdOf a b :: nd 4 0 0 [] [] (Lf.nds ls) :: r)) : Int)
        else 2
      else
        if (↑(List.length (hdOf a b :: nd 4 0 0 [] [] (Lf.nds ls) :: r)) : Int) < 2 then
          (↑(List.length (hdOf a b :: nd 4 0 0 [] [] (Lf.nds ls) :: r)) : Int)
        else 2)) (Int.ofNat (2 * i + 2)) (by kernel_rfl) hw ?_
    refine Pk.slice (es := 8) (x := CX.t p20) (lo := some (CX.t p21)) (hi := some (CX.t p24)) (mx := some (CX.t p27)) (xv := AV.lst (Br.nds ts)) (n := List.length (Br.nds ts)) (la := 2 * i) (ha := 2 * i + 2) (mv := some (2 * i + 2)) (v := AV.lst [hdOf a b, nd 4 0 0 [] [] (Lf.nds ls)]) (by kernel_rfl) (by kernel_rfl) (by kernel_rfl) (by kernel_rfl) (by kernel_rfl) (by kernel_rfl) (by kernel_rfl) s2 ?_
    -- CALL of AV.yld 7 with [AV.lst     [hdOf a b,       [AV.int IntKind.i64 4, AV.int IntKind.i64 0, AV.int IntKind.i64 0, AV.str [], AV.str [], AV.lst (Lf.nds ls),         AV.int IntKind.i64 0, AV.int IntKind.i64 0]]]
    refine Pk.callH (g := .t p19) (args := [.t p28]) (gv := .yld 7) (as := [.lst [hdOf a b, nd 4 0 0 [] [] (Lf.nds ls)]]) (b62 ts d (.own 84 74 (Br.avs (ts.take i))) ++ [lp62 0]) (by kernel_rfl) (by kernel_rfl) (by kernel_rfl) (by kernel_rfl) (by kernel_rfl) (by kernel_rfl) hy ?_
    rintro _ _ ⟨rfl, rfl⟩
    refine Pk.adv 11 (by kernel_rfl) ?_
    -- LOOP
    refine Pk.knowI p4 (IntKind.i64.wrap (Int.ofNat (2 * i) + 2)) (Int.ofNat (2 * (i + 1))) (by kernel_rfl) hw2 ?_
    refine Pk.kn F143 [.code c143_5, .blk 0] (b62 ts d (.own 84 74 (Br.avs (ts.take (i + 1)))) ++ [lp62 0]) (kk143 (i + 1)) (by kernel_rfl) (by kernel_rfl) (by kernel_rfl) (by kernel_rfl) (by kernel_rfl) (by kernel_rfl) ?_
    exact ih
  · have hlt : decide (Int.ofNat (2 * ts.length) < Int.ofNat (Br.nds ts).length) = false := by rw [nds_len2]; simp
    clear hlf hls
    refine Pk.adv 9 (by kernel_rfl) ?_
    refine Pk.know p9 (decide (Int.ofNat (2 * List.length ts) < (↑(List.length (Br.nds ts)) : Int))) false (by kernel_rfl) hlt ?_
    refine Pk.adv 5 (by kernel_rfl) ?_
    -- FIN
    exact Pk.done (by kernel_rfl) ⟨by kernel_rfl, .tup [], by kernel_rfl, by kernel_rfl⟩
set_option maxHeartbeats 4000000 in
theorem w62_at {E : Env} (h : Has E 62 F62) (h99 : Has E 99 F99) (h143 : Has E 143 F143) (ts : List Br) (d : Nat) (hd : d ≤ 20) (hts : ts.length ≤ 10000) (hls : ∀ (i : Nat) (a : List Nat) (b : Bool) (ls : List Lf), ts[i]? = some (.mk a b ls) → ls.length ≤ 10000)
    (hlf : ∀ (i : Nat) (a : List Nat) (b : Bool) (ls : List Lf), ts[i]? = some (.mk a b ls) → ∀ x, x ∈ ls → FnC E 100 [.agg x.nd, .int .i64 (Int.ofNat d)] (.tup [.agg x.av, .bool true])) : FnC E 62 [.agg (nodeOf ts), .int .i64 (Int.ofNat d)] (.tup [.lst (Br.avs ts), .bool true]) := by
  refine FnC.of h rfl (by kernel_rfl) (by kernel_rfl) ?_
  have hd2 : decide ((20 : Int) < Int.ofNat d) = false := by simp; omega
  have hev : (!decide (Int.tmod (Int.ofNat (Br.nds ts).length) 2 = 0)) = false := by
    rw [nds_len2]
    simp
  have hr := w143 h143 ts d hts hls hlf
  clear hlf hls
  refine Pk.adv 21 (by kernel_rfl) ?_
  refine Pk.know p25 (!decide (Int.tmod (↑(List.length (Br.nds ts)) : Int) 2 = 0)) false (by kernel_rfl) hev ?_
  refine Pk.adv 4 (by kernel_rfl) ?_
  refine Pk.know p28 (decide (20 < Int.ofNat d)) false (by kernel_rfl) hd2 ?_
  refine Pk.adv 11 (by kernel_rfl) ?_
  -- CALL AV.fn 99 [] with [AV.lst (Br.nds ts), AV.int IntKind.i64 2]
  refine Pk.callH (g := .c (.fn 99 [])) (args := [.t p30, .c (.int .i64 2)]) (gv := .fn 99 []) (as := [.lst (Br.nds ts), .int .i64 2]) (R := fun v H1 => v = .fn 143 [.ptr 5 0, .ptr 6 0] ∧ H1 = b62 ts d .nils) [.cells 1 36 (nodeOf ts), .cells 1 3 [.int .i64 (Int.ofNat d)], .cells 1 58 [.nils], .cells 1 4 [.bool false], .cells 1 58 [.nils]] (by kernel_rfl) (by kernel_rfl) (by kernel_rfl) (by kernel_rfl) (by kernel_rfl) (by kernel_rfl) (PCl.of h99 rfl (by kernel_rfl) ?_) ?_
  · refine Pk.adv 20 (by kernel_rfl) ?_
    -- FIN
    exact Pk.done (by kernel_rfl) ⟨by kernel_rfl, .fn 143 [.ptr 5 0, .ptr 6 0], by kernel_rfl, rfl, by kernel_rfl⟩
  rintro _ _ ⟨rfl, rfl⟩
  refine Pk.adv 2 (by kernel_rfl) ?_
  -- RNG
  refine Pk.kn F62 [.code c62_20, .blk 0, .code (.seq c62_21 .ret)] (b62 ts d .nils) kk62 (by kernel_rfl) (by kernel_rfl) (by kernel_rfl) (by kernel_rfl) (by kernel_rfl) (by kernel_rfl) ?_
  refine Pk.nilH 4 0 84 74 (H := b62 ts d (.own 84 74 (Br.avs (ts.take 0)))) rfl rfl rfl rfl ?_
  refine Pk.rng (kk := 143) (cs := [.ptr 5 0, .ptr 6 0]) rfl rfl rfl hr ?_
  intro _ H' e
  subst e
  refine ⟨0, .norm, fr F62 kk62, [p32], c62_5, bd62, rfl, .inl ⟨rfl, rfl⟩, ?_⟩
  rw [List.take_length]
  refine Pk.adv 8 (by kernel_rfl) ?_
  refine Pk.fin (v' := AV.tup [AV.lst (Br.avs ts), AV.bool true]) (by kernel_rfl) (by kernel_rfl) (by kernel_rfl) ?_
  rfl
end Go.EV

/- What holds of a tree that may be written. -/
namespace Go.EV
mutual
def Lf.gd (d : Int) : Lf → Prop
  | .mk k _ _ i t => match i with
    | true => k = 5 ∧ d + 1 ≤ 20 ∧ t.length ≤ 1000 ∧ Br.gds (d + 1) t
    | false => t = []
def Br.gd (d : Int) : Br → Prop
  | .mk _ _ l => 0 < l.length ∧ l.length ≤ 1000 ∧ Lf.gds d l
def Lf.gds (d : Int) : List Lf → Prop
  | [] => True
  | x :: r => x.gd d ∧ Lf.gds d r
def Br.gds (d : Int) : List Br → Prop
  | [] => True
  | x :: r => x.gd d ∧ Br.gds d r
end
theorem wr_succ {n : Int} (h0 : 0 ≤ n) (h1 : n ≤ 1000) : wr (n + 1) = n + 1 := by
  simp only [wr, IntKind.wrap, IntKind.bits, IntKind.signed]
  simp
  omega
mutual
theorem mayLs_ok (q : Ck) (d : Int) (hd0 : 0 ≤ d) (hd : d ≤ 20) : ∀ (l : List Lf) (n n' : Int), 0 ≤ n → n ≤ 1000 → mayLs q d l n = (true, n') → n + l.length ≤ n' ∧ n' ≤ 1000 ∧ Lf.gds d l
  | [], n, n', h0, h1, h => by
    simp only [mayLs, Prod.mk.injEq, true_and] at h
    subst h
    exact ⟨by simp, h1, trivial⟩
  | .mk k m s i t :: r, n, n', h0, h1, h => by
    have w := wr_succ h0 h1
    have wd := wr_succ hd0 (by omega)
    rw [mayLs.eq_def] at h
    simp only [w, wd] at h
    split at h
    · cases h
    · rename_i hn
      split at h
      · cases h
      · cases i with
        | false =>
          simp only at h
          split at h
          · cases h
          · rename_i ht
            obtain ⟨a, b, c⟩ := mayLs_ok q d hd0 hd r (n + 1) n' (by omega) (by omega) h
            refine ⟨by simp only [List.length_cons]; omega, b, ?_, c⟩
            simp only [Lf.gd]
            exact List.length_eq_zero_iff.1 (by omega)
        | true =>
          simp only at h
          split at h
          · cases h
          · rename_i hk
            rcases e : mayT q (d + 1) t (n + 1) with ⟨_ | _, n2⟩
            · rw [e] at h; cases h
            · rw [e] at h
              simp only at h
              obtain ⟨a1, b1, c1⟩ := mayT_ok q (d + 1) (by omega) t (n + 1) n2 (by omega) (by omega) e
              obtain ⟨a, b, c⟩ := mayLs_ok q d hd0 hd r n2 n' (by omega) b1 h
              refine ⟨by simp only [List.length_cons]; omega, b, ?_, c⟩
              simp only [Lf.gd]
              exact ⟨by omega, c1.1, by omega, c1.2⟩
theorem mayBs_ok (q : Ck) (d : Int) (hd0 : 0 ≤ d) (hd : d ≤ 20) : ∀ (pv : Option Br) (ts : List Br) (n n' : Int), 0 ≤ n → n ≤ 1000 → mayBs q d pv ts n = (true, n') → n + ts.length ≤ n' ∧ n' ≤ 1000 ∧ Br.gds d ts
  | pv, [], n, n', h0, h1, h => by
    simp only [mayBs, Prod.mk.injEq, true_and] at h
    subst h
    exact ⟨by simp, h1, trivial⟩
  | pv, .mk a b l :: r, n, n', h0, h1, h => by
    rw [mayBs.eq_def] at h
    simp only at h
    split at h
    · cases h
    · rename_i hl
      split at h
      · cases h
      · split at h
        · cases h
        · rcases e : mayLs q d l n with ⟨_ | _, n2⟩
          · rw [e] at h; cases h
          · rw [e] at h
            simp only at h
            obtain ⟨a1, b1, c1⟩ := mayLs_ok q d hd0 hd l n n2 h0 h1 e
            obtain ⟨a2, b2, c2⟩ := mayBs_ok q d hd0 hd (some (.mk a b l)) r n2 n' (by omega) b1 h
            exact ⟨by simp only [List.length_cons]; omega, b2, ⟨by omega, by omega, c1⟩, c2⟩
theorem mayT_ok (q : Ck) (d : Int) (hd0 : 0 ≤ d) : ∀ (ts : List Br) (n n' : Int), 0 ≤ n → n ≤ 1000 → mayT q d ts n = (true, n') → n + ts.length ≤ n' ∧ n' ≤ 1000 ∧ d ≤ 20 ∧ Br.gds d ts
  | ts, n, n', h0, h1, h => by
    rw [mayT] at h
    split at h
    · cases h
    · obtain ⟨a, b, c⟩ := mayBs_ok q d hd0 (by omega) none ts n n' h0 h1 h
      exact ⟨a, b, by omega, c⟩
end
end Go.EV

/- A node's tree: trees that may be written. -/
namespace Go.EV
theorem Lf.gds_at {d : Int} : ∀ {l : List Lf} {x : Lf}, Lf.gds d l → x ∈ l → x.gd d
  | [], x, _, h => by cases h
  | y :: r, x, h, e => by
    rcases List.mem_cons.1 e with rfl | e
    · exact h.1
    · exact Lf.gds_at h.2 e
theorem Br.gds_at {d : Int} : ∀ {l : List Br} {i : Nat} {x : Br}, Br.gds d l → l[i]? = some x → x.gd d
  | [], i, x, _, h => by simp at h
  | y :: r, 0, x, h, e => by simp at e; subst e; exact h.1
  | y :: r, i + 1, x, h, e => Br.gds_at h.2 (by simpa using e)
theorem w62 {E : Env} (h : Has E 62 F62) (h99 : Has E 99 F99) (h143 : Has E 143 F143) (h100 : Has E 100 F100) : ∀ (z : Nat) (ts : List Br) (d : Nat), SizeOf.sizeOf ts < z → d ≤ 20 → ts.length ≤ 10000 → Br.gds (Int.ofNat d) ts → FnC E 62 [.agg (nodeOf ts), .int .i64 (Int.ofNat d)] (.tup [.lst (Br.avs ts), .bool true]) := by
  intro z
  induction z with
  | zero => intro ts d h; omega
  | succ z ih =>
    intro ts d hz hd hts hg
    refine w62_at h h99 h143 ts d hd hts (fun i a b ls e => ?_) fun i a b ls e x hx => ?_
    · have := Br.gds_at hg e
      simp only [Br.gd] at this
      omega
    · have g1 := Br.gds_at hg e
      simp only [Br.gd] at g1
      have g2 := Lf.gds_at g1.2.2 hx
      obtain ⟨k, n, s, j, t⟩ := x
      obtain ⟨kk, hkk⟩ := List.getElem?_of_mem hx
      have hsz := sub_lt e hkk
      cases j with
      | false =>
        simp only [Lf.gd] at g2
        subst g2
        exact l100_no h100 k n s d
      | true =>
        simp only [Lf.gd] at g2
        obtain ⟨_, h2, h3, h4⟩ := g2
        exact l100_yes h100 k n s d t (by have : (Int.ofNat d : Int) = (d : Int) := rfl; omega) (ih t (d + 1) (by omega) (by have : (Int.ofNat d : Int) = (d : Int) := rfl; omega) (by omega) h4)
end Go.EV

/- A node read. -/
namespace Go.EV
set_option maxRecDepth 100000
set_option maxHeartbeats 4000000 in
theorem w34 {fs : Nat → Option CF} {pr : Nat → List AV → Hp → Option (AV × Hp)} (h : Has (E3 fs pr) 34 F34) {q : Ck} {ts : List Br} (hr : Rec60 (E3 fs pr) q ts) (hm : (mayT q 1 ts 0).1 = true) (hn : ∀ H, Cl (E3 fs pr) (.fn 61 []) [.lst (Br.avs ts)] H (.agg (nodeOf ts)) H) (ht : ∀ H, Cl (E3 fs pr) (.fn 62 []) [.agg (nodeOf ts), .int .i64 1] H (.tup [.lst (Br.avs ts), .bool true]) H) (hs : SameOk (E3 fs pr) (nodeOf ts)) : ∀ H, Cl (E3 fs pr) (.fn 34 []) [.agg (nodeOf ts)] H (.tup [.lst (Br.avs ts), .int .i64 0]) H := by
  intro H
  refine Cl.frozen h _ rfl rfl rfl (by kernel_rfl) ?_
  have hc := rec60_at hr 1 1 0
  rw [hm] at hc
  have hs2 := hs.2
  clear hr hm hs
  refine Rk.adv 9 (by kernel_rfl) ?_
  refine Rk.call (as := [AV.agg
    [AV.int IntKind.i64 5, AV.int IntKind.i64 0, AV.int IntKind.i64 0, AV.str [], AV.str [], AV.lst (Br.nds ts),
      AV.int IntKind.i64 0, AV.int IntKind.i64 0],
  AV.int IntKind.i64 1]) (by kernel_rfl) (ht _) ?_
  refine Rk.adv 18 (by kernel_rfl) ?_
  refine Rk.call (as := [AV.lst (Br.avs ts), AV.int IntKind.i64 1, AV.ptr 1 0]) (by kernel_rfl) (hc _ (by kernel_rfl) (by kernel_rfl)) ?_
  refine Rk.adv 5 (by kernel_rfl) ?_
  refine Rk.call (as := [AV.lst (Br.avs ts)]) (by kernel_rfl) (hn _) ?_
  refine Rk.call (as := [AV.agg
    [AV.int IntKind.i64 5, AV.int IntKind.i64 0, AV.int IntKind.i64 0, AV.str [], AV.str [], AV.lst (Br.nds ts),
      AV.int IntKind.i64 0, AV.int IntKind.i64 0],
  AV.agg
    [AV.int IntKind.i64 5, AV.int IntKind.i64 0, AV.int IntKind.i64 0, AV.str [], AV.str [], AV.lst (Br.nds ts),
      AV.int IntKind.i64 0, AV.int IntKind.i64 0]]) (by kernel_rfl) (hs2 _) ?_
  refine Rk.adv 12 (by kernel_rfl) ?_
  refine Rk.fin (v' := AV.tup [AV.lst (Br.avs ts), AV.int IntKind.i64 0]) (by kernel_rfl) (by kernel_rfl) (by kernel_rfl) ?_
  rfl
end Go.EV

/- PullBack, whatever the tree. -/
namespace Go.EV
set_option maxRecDepth 100000
abbrev nd0 : List AV := nd 0 0 0 [] [] []
set_option maxHeartbeats 4000000 in
theorem z62 {E : Env} (h : Has E 62 F62) : FnC E 62 [.agg nd0, .int .i64 1] (.tup [.lst [], .bool false]) := by
  refine FnC.of h rfl (by kernel_rfl) (by kernel_rfl) ?_
  refine Pk.adv 33 (by kernel_rfl) ?_
  refine Pk.fin (v' := AV.tup [AV.lst [], AV.bool false]) (by kernel_rfl) (by kernel_rfl) (by kernel_rfl) ?_
  rfl
set_option maxHeartbeats 4000000 in
theorem z34 {E : Env} (h : Has E 34 F34) (h62 : Has E 62 F62) : FnC E 34 [.agg nd0] (.tup [.lst [], .int .i64 200]) := by
  refine FnC.of h rfl (by kernel_rfl) (by kernel_rfl) ?_
  have hc := z62 h62
  refine Pk.adv 9 (by kernel_rfl) ?_
  refine Pk.call0 (g := CX.c (AV.fn 62 [])) (args := [CX.t p8, CX.c (AV.int IntKind.i64 1)]) (k := 62) (caps := []) (as := [AV.agg
    [AV.int IntKind.i64 0, AV.int IntKind.i64 0, AV.int IntKind.i64 0, AV.str [], AV.str [], AV.lst [],
      AV.int IntKind.i64 0, AV.int IntKind.i64 0],
  AV.int IntKind.i64 1]) (vs := [AV.agg
    [AV.int IntKind.i64 0, AV.int IntKind.i64 0, AV.int IntKind.i64 0, AV.str [], AV.str [], AV.lst [],
      AV.int IntKind.i64 0, AV.int IntKind.i64 0],
  AV.int IntKind.i64 1]) (v := AV.tup [AV.lst [], AV.bool false]) (by kernel_rfl) (by kernel_rfl) (by kernel_rfl) (by kernel_rfl) (by kernel_rfl) (by kernel_rfl) (by kernel_rfl) (hc) ?_
  refine Pk.adv 37 (by kernel_rfl) ?_
  refine Pk.fin (v' := AV.tup [AV.lst [], AV.int IntKind.i64 200]) (by kernel_rfl) (by kernel_rfl) (by kernel_rfl) ?_
  rfl
set_option maxHeartbeats 4000000 in
theorem w10 {E : Env} (h : Has E 10 F10) (ts : List Br) (h24 : ∀ H, Cl E (.fn 24 []) [] H (.bool true) H) {w : Int} (h36 : ∀ H, Cl E (.fn 36 []) [.lst (Br.avs ts), .int .i64 0] H (.int .i64 w) H)
    (hw : (∀ H, Cl E (.fn 33 []) [.lst (Br.avs ts)] H (.tup [.agg nd0, .int .i64 200]) H) ∧ (∀ H, Cl E (.fn 34 []) [.agg nd0] H (.tup [.lst [], .int .i64 200]) H) ∨
      (∀ H, Cl E (.fn 33 []) [.lst (Br.avs ts)] H (.tup [.agg (nodeOf ts), .int .i64 0]) H) ∧ (∀ H, Cl E (.fn 34 []) [.agg (nodeOf ts)] H (.tup [.lst (Br.avs ts), .int .i64 0]) H))
    (h37 : ∀ H, Cl E (.fn 37 []) [.lst (Br.avs ts), .lst (Br.avs ts)] H (.bool true) H) : ∀ H, Cl E (.fn 10 []) [.lst (Br.avs ts)] H (.bool true) H := by
  intro H
  refine Cl.frozen h _ rfl rfl rfl (by kernel_rfl) ?_
  rcases hw with ⟨h33, h34⟩ | ⟨h33, h34⟩
  · refine Rk.adv 6 (by kernel_rfl) ?_
    refine Rk.call (as := []) (by kernel_rfl) (h24 _) ?_
    refine Rk.adv 6 (by kernel_rfl) ?_
    refine Rk.call (as := [AV.lst (Br.avs ts), AV.int IntKind.i64 0]) (by kernel_rfl) (h36 _) ?_
    refine Rk.adv 2 (by kernel_rfl) ?_
    refine Rk.split p12 (decide (3000 < w)) (by kernel_rfl) (fun h1 => ?_) (fun h1 => ?_)
    · refine Rk.adv 12 (by kernel_rfl) ?_
      refine Rk.fin (v' := AV.bool true) (by kernel_rfl) (by kernel_rfl) (by kernel_rfl) ?_
      rfl
    · refine Rk.adv 9 (by kernel_rfl) ?_
      refine Rk.call (as := [AV.lst (Br.avs ts)]) (by kernel_rfl) (h33 _) ?_
      refine Rk.adv 10 (by kernel_rfl) ?_
      refine Rk.call (as := [AV.agg
      [AV.int IntKind.i64 0, AV.int IntKind.i64 0, AV.int IntKind.i64 0, AV.str [], AV.str [], AV.lst [],
        AV.int IntKind.i64 0, AV.int IntKind.i64 0]]) (by kernel_rfl) (h34 _) ?_
      refine Rk.adv 25 (by kernel_rfl) ?_
      refine Rk.fin (v' := AV.bool true) (by kernel_rfl) (by kernel_rfl) (by kernel_rfl) ?_
      rfl
  · refine Rk.adv 6 (by kernel_rfl) ?_
    refine Rk.call (as := []) (by kernel_rfl) (h24 _) ?_
    refine Rk.adv 6 (by kernel_rfl) ?_
    refine Rk.call (as := [AV.lst (Br.avs ts), AV.int IntKind.i64 0]) (by kernel_rfl) (h36 _) ?_
    refine Rk.adv 2 (by kernel_rfl) ?_
    refine Rk.split p12 (decide (3000 < w)) (by kernel_rfl) (fun h1 => ?_) (fun h1 => ?_)
    · refine Rk.adv 12 (by kernel_rfl) ?_
      refine Rk.fin (v' := AV.bool true) (by kernel_rfl) (by kernel_rfl) (by kernel_rfl) ?_
      rfl
    · refine Rk.adv 9 (by kernel_rfl) ?_
      refine Rk.call (as := [AV.lst (Br.avs ts)]) (by kernel_rfl) (h33 _) ?_
      refine Rk.adv 10 (by kernel_rfl) ?_
      refine Rk.call (as := [AV.agg
      [AV.int IntKind.i64 5, AV.int IntKind.i64 0, AV.int IntKind.i64 0, AV.str [], AV.str [], AV.lst (Br.nds ts),
        AV.int IntKind.i64 0, AV.int IntKind.i64 0]]) (by kernel_rfl) (h34 _) ?_
      refine Rk.adv 18 (by kernel_rfl) ?_
      refine Rk.call (as := [AV.lst (Br.avs ts), AV.lst (Br.avs ts)]) (by kernel_rfl) (h37 _) ?_
      refine Rk.adv 6 (by kernel_rfl) ?_
      refine Rk.fin (v' := AV.bool true) (by kernel_rfl) (by kernel_rfl) (by kernel_rfl) ?_
      rfl
end Go.EV

/- PullBack answers true, whatever the tree: put together. -/
namespace Go.EV
mutual
theorem Lf.fw_of {d : Int} : ∀ {x : Lf}, x.gd d → x.fw
  | .mk k n s i t, h => by
    cases i with
    | false =>
      simp only [Lf.gd] at h
      subst h
      exact ⟨by simp, trivial⟩
    | true =>
      simp only [Lf.gd] at h
      exact ⟨by omega, Br.fws_of h.2.2.2⟩
theorem Br.fw_of {d : Int} : ∀ {x : Br}, x.gd d → x.fw
  | .mk a b l, h => by
    simp only [Br.gd] at h
    exact ⟨h.1, by omega, Lf.fws_of h.2.2⟩
theorem Lf.fws_of {d : Int} : ∀ {l : List Lf}, Lf.gds d l → Lf.fws l
  | [], _ => trivial
  | x :: r, h => ⟨Lf.fw_of h.1, Lf.fws_of h.2⟩
theorem Br.fws_of {d : Int} : ∀ {l : List Br}, Br.gds d l → Br.fws l
  | [], _ => trivial
  | x :: r, h => ⟨Br.fw_of h.1, Br.fws_of h.2⟩
end
/-- The functions that PullBack reaches. -/
structure Has10 (E : Env) : Prop where
  h10 : Has E 10 F10
  h33 : Has E 33 F33
  h34 : Has E 34 F34
  h36 : Has E 36 F36
  h37 : Has E 37 F37
  h60 : Has E 60 F60
  h61 : Has E 61 F61
  h62 : Has E 62 F62
  h63 : Has E 63 F63
  h78 : Has E 78 F78
  h96 : Has E 96 F96
  h97 : Has E 97 F97
  h98 : Has E 98 F98
  h99 : Has E 99 F99
  h100 : Has E 100 F100
  h107 : Has E 107 F107
  h139 : Has E 139 F139
  h141 : Has E 141 F141
  h142 : Has E 142 F142
  h143 : Has E 143 F143
  h154 : Has E 154 F154
  h182 : Has E 182 F182

theorem ck_of {fs : Nat → Option CF} {pr : Nat → List AV → Hp → Option (AV × Hp)} (h : Has10 (E3 fs pr)) (h5 : ∀ l H, pr 140 l H = prS 140 l H) : ∃ q : Ck, Chk97 (E3 fs pr) q ∧ Cmp96 (E3 fs pr) q := by
  have h1 : ∀ (k n : Int) (s : List Nat), ∃ w : Int, s.length ≤ mx63 → ∀ H, Cl (E3 fs pr) (.fn 97 []) [.agg [.int .i64 k, .int .i64 n, .str s]] H (.int .i64 w) H := fun k n s => by
    by_cases hs : s.length ≤ mx63
    · obtain ⟨w, hw⟩ := cl97 h.h97 h.h107 h.h154 k n s hs
      exact ⟨w, fun _ => hw⟩
    · exact ⟨0, fun k => absurd k hs⟩
  have h2 : ∀ (x y : Br), ∃ w : Int, ∀ H, Cl (E3 fs pr) (.fn 96 []) [.agg x.av, .agg y.av] H (.int .i64 w) H := fun x y => by
    obtain ⟨a, b, l⟩ := x
    obtain ⟨a', b', l'⟩ := y
    exact cl96 h.h96 h.h139 h.h141 h.h142 h.h182 h5 a a' b b' _ _
  refine ⟨⟨fun k n s => Classical.choose (h1 k n s), fun x y => Classical.choose (h2 x y)⟩, fun k n s hs => Classical.choose_spec (h1 k n s) hs, fun x y => Classical.choose_spec (h2 x y)⟩
theorem pullBack_cl {fs : Nat → Option CF} {pr : Nat → List AV → Hp → Option (AV × Hp)} (h : Has10 (E3 fs pr)) (h5 : ∀ l H, pr 140 l H = prS 140 l H) (h24 : ∀ H, Cl (E3 fs pr) (.fn 24 []) [] H (.bool true) H) (ts : List Br) (hts : ts.length ≤ mx63) (hsm : Br.sms ts) :
    ∀ H, Cl (E3 fs pr) (.fn 10 []) [.lst (Br.avs ts)] H (.bool true) H := by
  obtain ⟨q, hq1, hq2⟩ := ck_of h h5
  obtain ⟨w, hw⟩ := w36 h.h36 _ ts (Nat.lt_succ_self _) hts hsm
  have hr := w60 h.h60 hq1 hq2 _ ts (Nat.lt_succ_self _) hts hsm
  refine w10 h.h10 ts h24 (hw 0) ?_ (w37 h.h37 _ ts (Nat.lt_succ_self _) hts hsm)
  cases hm : (mayT q 1 ts 0).1 with
  | false => exact .inl ⟨w33_no h.h33 hr hm, (z34 h.h34 h.h62).cl rfl⟩
  | true =>
    have hmt : mayT q 1 ts 0 = (true, (mayT q 1 ts 0).2) := by rw [← hm]
    obtain ⟨g1, g2, g3, g4⟩ := mayT_ok q 1 (by omega) ts 0 _ (by omega) (by omega) hmt
    have hlen : ts.length ≤ 10000 := by omega
    have hf := Br.fws_of g4
    have hn := w61 h.h61 h.h98 _ ts (Nat.lt_succ_self _) hlen hf
    exact .inr ⟨w33_yes h.h33 hr hm hn, w34 h.h34 hr hm hn ((w62 h.h62 h.h99 h.h143 h.h100 _ ts 1 (Nat.lt_succ_self _) (by omega) hlen g4).cl rfl) (same_node h.h63 h.h78 _ ts (Nat.lt_succ_self _) hlen hf)⟩
end Go.EV
