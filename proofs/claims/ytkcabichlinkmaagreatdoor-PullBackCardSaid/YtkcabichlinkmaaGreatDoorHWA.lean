/- A tree written. -/
import Derived.Test.YtkcabichlinkmaaGreatDoorHW60
import Derived.Test.YtkcabichlinkmaaGreatDoorHW61
import Derived.Test.YtkcabichlinkmaaGreatDoorHMM
import Derived.Test.YtkcabichlinkmaaGreatDoorHCd3a
import Derived.Test.YtkcabichlinkmaaGreatDoorHCd3b
import Derived.Test.YtkcabichlinkmaaGreatDoorHTT
namespace Go.EV
set_option maxRecDepth 100000
theorem rec60_at {E : Env} {q : Ck} {t : List Br} (h : Rec60 E q t) (b : Nat) (d n : Int) : ∀ H : Hp, H[b]? = some (.cells 1 3 [.int .i64 n]) → H.all (blkLow 0) = true → Cl E (.fn 60 []) [.lst (Br.avs t), .int .i64 d, .ptr b 0] H (.bool (mayT q d t n).1) (H.set b (.cells 1 3 [.int .i64 (mayT q d t n).2])) := fun H h1 h2 => h d n H b h1 (Lows.of h2)
set_option maxHeartbeats 4000000 in
theorem w33_no {E : Env} (h : Has E 33 F33) {q : Ck} {ts : List Br} (hr : Rec60 E q ts) (hm : (mayT q 1 ts 0).1 = false) : ∀ H, Cl E (.fn 33 []) [.lst (Br.avs ts)] H (.tup [.agg (nd 0 0 0 [] [] []), .int .i64 200]) H := by
  intro H
  refine Cl.frozen h _ rfl rfl rfl (by kernel_rfl) ?_
  have hc := rec60_at hr 1 1 0
  rw [hm] at hc
  clear hr hm
  refine Rk.adv 14 (by kernel_rfl) ?_
  refine Rk.call (as := [AV.lst (Br.avs ts), AV.int IntKind.i64 1, AV.ptr 1 0]) (by kernel_rfl) (hc _ (by kernel_rfl) (by kernel_rfl)) ?_
  refine Rk.adv 11 (by kernel_rfl) ?_
  refine Rk.fin (v' := AV.tup
  [AV.agg
      [AV.int IntKind.i64 0, AV.int IntKind.i64 0, AV.int IntKind.i64 0, AV.str [], AV.str [], AV.lst [],
        AV.int IntKind.i64 0, AV.int IntKind.i64 0],
    AV.int IntKind.i64 200]) (by kernel_rfl) (by kernel_rfl) (by kernel_rfl) ?_
  rfl
set_option maxHeartbeats 4000000 in
theorem w33_yes {E : Env} (h : Has E 33 F33) {q : Ck} {ts : List Br} (hr : Rec60 E q ts) (hm : (mayT q 1 ts 0).1 = true) (hn : ∀ H, Cl E (.fn 61 []) [.lst (Br.avs ts)] H (.agg (nodeOf ts)) H) : ∀ H, Cl E (.fn 33 []) [.lst (Br.avs ts)] H (.tup [.agg (nodeOf ts), .int .i64 0]) H := by
  intro H
  refine Cl.frozen h _ rfl rfl rfl (by kernel_rfl) ?_
  have hc := rec60_at hr 1 1 0
  rw [hm] at hc
  clear hr hm
  refine Rk.adv 14 (by kernel_rfl) ?_
  refine Rk.call (as := [AV.lst (Br.avs ts), AV.int IntKind.i64 1, AV.ptr 1 0]) (by kernel_rfl) (hc _ (by kernel_rfl) (by kernel_rfl)) ?_
  refine Rk.adv 7 (by kernel_rfl) ?_
  refine Rk.call (as := [AV.lst (Br.avs ts)]) (by kernel_rfl) (hn _) ?_
  refine Rk.adv 4 (by kernel_rfl) ?_
  refine Rk.fin (v' := AV.tup
  [AV.agg
      [AV.int IntKind.i64 5, AV.int IntKind.i64 0, AV.int IntKind.i64 0, AV.str [], AV.str [], AV.lst (Br.nds ts),
        AV.int IntKind.i64 0, AV.int IntKind.i64 0],
    AV.int IntKind.i64 0]) (by kernel_rfl) (by kernel_rfl) (by kernel_rfl) ?_
  rfl
end Go.EV

/- A node is the same as itself. -/
namespace Go.EV
set_option maxRecDepth 100000
def SameOk (E : Env) (x : List AV) : Prop := (∃ k vk vn vs s ks, x = nd k vk vn vs s ks) ∧ ∀ H, Cl E (.fn 63 []) [.agg x, .agg x] H (.bool true) H
set_option maxHeartbeats 4000000 in
theorem w78_in {E : Env} {ks : List (List AV)} (hks : ks.length ≤ mx63) (hel : ∀ (i : Nat) (c : List AV), ks[i]? = some c → SameOk E c) :
    ∀ (m i : Nat), ks.length - i = m → ∀ (f : Fr) (C : Hp), Knows F78 f [(p17, .int .i64 (Int.ofNat i)), (p15, .lst ks), (p16, .int .i64 (Int.ofNat ks.length)), (p1, .lst ks), (p2, .fn 63 [])] →
    Rk E ⟨[.code c78_10], .norm, f, C⟩ (fun e f' _ => e = .exit 0 ∧ Knows F78 f' []) := by
  intro m
  induction m with
  | zero =>
    intro i hm f C hk
    obtain ⟨g, rfl⟩ := hk.gen
    have hlt : decide (Int.ofNat i < Int.ofNat ks.length) = false := by simp; omega
    refine Rk.adv 6 (by kernel_rfl) ?_
    refine Rk.know p18 (decide (Int.ofNat i < Int.ofNat (List.length ks))) false (by kernel_rfl) hlt ?_
    refine Rk.adv 4 (by kernel_rfl) ?_
    -- FIN
    refine Rk.doneK F78 (.exit 0) C [] [] (by kernel_rfl) (by kernel_rfl) (by kernel_rfl) (by kernel_rfl) (by kernel_rfl) (by kernel_rfl) ?_
    intro f1 hk1 _
    exact ⟨rfl, hk1⟩
  | succ m hi =>
    intro i hm f C hk
    obtain ⟨g, rfl⟩ := hk.gen
    have hlt : decide (Int.ofNat i < Int.ofNat ks.length) = true := by simp; omega
    obtain ⟨c, hx⟩ : ∃ c, ks[i]? = some c := ⟨_, List.getElem?_eq_getElem (by omega)⟩
    obtain ⟨⟨k, vk, vn, vs, s, ks', rfl⟩, hc⟩ := hel i c hx
    obtain ⟨cl, hcl⟩ : ∃ cl, C.length = cl := ⟨_, rfl⟩
    clear hel
    rw [← List.append_nil C]
    refine Rk.adv 6 (by kernel_rfl) ?_
    refine Rk.know p18 (decide (Int.ofNat i < Int.ofNat (List.length ks))) true (by kernel_rfl) hlt ?_
    refine Rk.adv 7 (by kernel_rfl) ?_
    refine Rk.iaddr (l := ks) (n := i) (c := [AV.int IntKind.i64 k, AV.int IntKind.i64 vk, AV.int IntKind.i64 vn, AV.str vs, AV.str s, AV.lst ks',
    AV.int IntKind.i64 0, AV.int IntKind.i64 0]) (es := 8) (by kernel_rfl) hx (by kernel_rfl) ?_
    refine Rk.adv 1 (by kernel_rfl) ?_
    refine Rk.alloc hcl (H := C) (L := []) (ty := 36) (z := [AV.int IntKind.i64 0, AV.int IntKind.i64 0, AV.int IntKind.i64 0, AV.str [], AV.str [], AV.nils, AV.int IntKind.i64 0,
    AV.int IntKind.i64 0]) 0 (by kernel_rfl) (by kernel_rfl) (by kernel_rfl) ?_
    refine Rk.adv 1 (by kernel_rfl) ?_
    refine Rk.store hcl (H := C) (L := [Blk.cells 1 36
      [AV.int IntKind.i64 0, AV.int IntKind.i64 0, AV.int IntKind.i64 0, AV.str [], AV.str [], AV.nils,
        AV.int IntKind.i64 0, AV.int IntKind.i64 0]]) (n := 8) (j := 0) (o := 0) (ty := 36) (cs := [AV.int IntKind.i64 0, AV.int IntKind.i64 0, AV.int IntKind.i64 0, AV.str [], AV.str [], AV.nils, AV.int IntKind.i64 0,
    AV.int IntKind.i64 0]) (v := AV.agg
    [AV.int IntKind.i64 k, AV.int IntKind.i64 vk, AV.int IntKind.i64 vn, AV.str vs, AV.str s, AV.lst ks',
      AV.int IntKind.i64 0, AV.int IntKind.i64 0]) (by kernel_rfl) (by kernel_rfl) (by kernel_rfl) (by kernel_rfl) ?_
    refine Rk.adv 5 (by kernel_rfl) ?_
    refine Rk.iaddr (l := ks) (n := i) (c := [AV.int IntKind.i64 k, AV.int IntKind.i64 vk, AV.int IntKind.i64 vn, AV.str vs, AV.str s, AV.lst ks',
    AV.int IntKind.i64 0, AV.int IntKind.i64 0]) (es := 8) (by kernel_rfl) hx (by kernel_rfl) ?_
    refine Rk.adv 1 (by kernel_rfl) ?_
    refine Rk.alloc hcl (H := C) (L := [Blk.cells 1 36
      [AV.int IntKind.i64 k, AV.int IntKind.i64 vk, AV.int IntKind.i64 vn, AV.str vs, AV.str s, AV.lst ks',
        AV.int IntKind.i64 0, AV.int IntKind.i64 0]]) (ty := 36) (z := [AV.int IntKind.i64 0, AV.int IntKind.i64 0, AV.int IntKind.i64 0, AV.str [], AV.str [], AV.nils, AV.int IntKind.i64 0,
    AV.int IntKind.i64 0]) 1 (by kernel_rfl) (by kernel_rfl) (by kernel_rfl) ?_
    refine Rk.store hcl (H := C) (L := [Blk.cells 1 36
      [AV.int IntKind.i64 k, AV.int IntKind.i64 vk, AV.int IntKind.i64 vn, AV.str vs, AV.str s, AV.lst ks',
        AV.int IntKind.i64 0, AV.int IntKind.i64 0],
    Blk.cells 1 36
      [AV.int IntKind.i64 0, AV.int IntKind.i64 0, AV.int IntKind.i64 0, AV.str [], AV.str [], AV.nils,
        AV.int IntKind.i64 0, AV.int IntKind.i64 0]]) (n := 8) (j := 1) (o := 0) (ty := 36) (cs := [AV.int IntKind.i64 0, AV.int IntKind.i64 0, AV.int IntKind.i64 0, AV.str [], AV.str [], AV.nils, AV.int IntKind.i64 0,
    AV.int IntKind.i64 0]) (v := AV.agg
    [AV.int IntKind.i64 k, AV.int IntKind.i64 vk, AV.int IntKind.i64 vn, AV.str vs, AV.str s, AV.lst ks',
      AV.int IntKind.i64 0, AV.int IntKind.i64 0]) (by kernel_rfl) (by kernel_rfl) (by kernel_rfl) (by kernel_rfl) ?_
    refine Rk.adv 4 (by kernel_rfl) ?_
    refine Rk.load hcl (H := C) (L := [Blk.cells 1 36
      [AV.int IntKind.i64 k, AV.int IntKind.i64 vk, AV.int IntKind.i64 vn, AV.str vs, AV.str s, AV.lst ks',
        AV.int IntKind.i64 0, AV.int IntKind.i64 0],
    Blk.cells 1 36
      [AV.int IntKind.i64 k, AV.int IntKind.i64 vk, AV.int IntKind.i64 vn, AV.str vs, AV.str s, AV.lst ks',
        AV.int IntKind.i64 0, AV.int IntKind.i64 0]]) (n := 8) (ag := true) (j := 0) (o := 0) (st := 1) (ty := 36) (cs := [AV.int IntKind.i64 k, AV.int IntKind.i64 vk, AV.int IntKind.i64 vn, AV.str vs, AV.str s, AV.lst ks',
    AV.int IntKind.i64 0, AV.int IntKind.i64 0]) (v := AV.agg
    [AV.int IntKind.i64 k, AV.int IntKind.i64 vk, AV.int IntKind.i64 vn, AV.str vs, AV.str s, AV.lst ks',
      AV.int IntKind.i64 0, AV.int IntKind.i64 0]) (by kernel_rfl) (by kernel_rfl) (by kernel_rfl) (by kernel_rfl) ?_
    refine Rk.load hcl (H := C) (L := [Blk.cells 1 36
      [AV.int IntKind.i64 k, AV.int IntKind.i64 vk, AV.int IntKind.i64 vn, AV.str vs, AV.str s, AV.lst ks',
        AV.int IntKind.i64 0, AV.int IntKind.i64 0],
    Blk.cells 1 36
      [AV.int IntKind.i64 k, AV.int IntKind.i64 vk, AV.int IntKind.i64 vn, AV.str vs, AV.str s, AV.lst ks',
        AV.int IntKind.i64 0, AV.int IntKind.i64 0]]) (n := 8) (ag := true) (j := 1) (o := 0) (st := 1) (ty := 36) (cs := [AV.int IntKind.i64 k, AV.int IntKind.i64 vk, AV.int IntKind.i64 vn, AV.str vs, AV.str s, AV.lst ks',
    AV.int IntKind.i64 0, AV.int IntKind.i64 0]) (v := AV.agg
    [AV.int IntKind.i64 k, AV.int IntKind.i64 vk, AV.int IntKind.i64 vn, AV.str vs, AV.str s, AV.lst ks',
      AV.int IntKind.i64 0, AV.int IntKind.i64 0]) (by kernel_rfl) (by kernel_rfl) (by kernel_rfl) (by kernel_rfl) ?_
    refine Rk.callH (H := C ++
    [Blk.cells 1 36
        [AV.int IntKind.i64 k, AV.int IntKind.i64 vk, AV.int IntKind.i64 vn, AV.str vs, AV.str s, AV.lst ks',
          AV.int IntKind.i64 0, AV.int IntKind.i64 0],
      Blk.cells 1 36
        [AV.int IntKind.i64 k, AV.int IntKind.i64 vk, AV.int IntKind.i64 vn, AV.str vs, AV.str s, AV.lst ks',
          AV.int IntKind.i64 0, AV.int IntKind.i64 0]]) (hH := by kernel_rfl) (as := [AV.agg
      [AV.int IntKind.i64 k, AV.int IntKind.i64 vk, AV.int IntKind.i64 vn, AV.str vs, AV.str s, AV.lst ks',
        AV.int IntKind.i64 0, AV.int IntKind.i64 0],
    AV.agg
      [AV.int IntKind.i64 k, AV.int IntKind.i64 vk, AV.int IntKind.i64 vn, AV.str vs, AV.str s, AV.lst ks',
        AV.int IntKind.i64 0, AV.int IntKind.i64 0]]) (by kernel_rfl) (hc _) ?_
    refine Rk.adv 9 (by kernel_rfl) ?_
    -- LOOP
    refine Rk.inc p17 i (by kernel_rfl) (by unfold mx63 at hks; omega) ?_
    refine Rk.kn F78 [.code c78_10] (C ++
      [Blk.cells 1 36
          [AV.int IntKind.i64 k, AV.int IntKind.i64 vk, AV.int IntKind.i64 vn, AV.str vs, AV.str s, AV.lst ks',
            AV.int IntKind.i64 0, AV.int IntKind.i64 0],
        Blk.cells 1 36
          [AV.int IntKind.i64 k, AV.int IntKind.i64 vk, AV.int IntKind.i64 vn, AV.str vs, AV.str s, AV.lst ks',
            AV.int IntKind.i64 0, AV.int IntKind.i64 0]]) [(p17, .int .i64 (Int.ofNat (i + 1))), (p15, .lst ks), (p16, .int .i64 (Int.ofNat ks.length)), (p1, .lst ks), (p2, .fn 63 [])] [] (by kernel_rfl) (by kernel_rfl) (by kernel_rfl) (by kernel_rfl) (by kernel_rfl) (by kernel_rfl) ?_
    intro f1 hk1 _
    exact hi (i + 1) (by omega) f1 _ hk1
set_option maxHeartbeats 4000000 in
theorem cl78 {E : Env} (h : Has E 78 F78) {ks : List (List AV)} (hks : ks.length ≤ mx63) (hel : ∀ (i : Nat) (c : List AV), ks[i]? = some c → SameOk E c) : ∀ H, Cl E (.fn 78 []) [.lst ks, .lst ks, .fn 63 []] H (.bool true) H := by
  intro H
  refine Cl.frozen h _ rfl rfl rfl (by kernel_rfl) ?_
  have hne : (!decide (Int.ofNat ks.length = Int.ofNat ks.length)) = false := by simp
  refine Rk.adv 13 (by kernel_rfl) ?_
  refine Rk.know p14 (!decide ((↑(List.length ks) : Int) = (↑(List.length ks) : Int))) false (by kernel_rfl) hne ?_
  refine Rk.adv 10 (by kernel_rfl) ?_
  -- LOOP
  refine Rk.kn F78 [.code c78_10, .blk 0, .code (.seq c78_11 .ret)] [] [(p17, .int .i64 (Int.ofNat 0)), (p15, .lst ks), (p16, .int .i64 (Int.ofNat ks.length)), (p1, .lst ks), (p2, .fn 63 [])] [] (by kernel_rfl) (by kernel_rfl) (by kernel_rfl) (by kernel_rfl) (by kernel_rfl) (by kernel_rfl) ?_
  intro f1 hk1 _
  refine Rk.trans (c := [.code c78_10]) (k := [.blk 0, .code (.seq c78_11 .ret)]) ((w78_in hks hel _ 0 rfl f1 _ hk1).weak ?_)
  rintro _ f2 C2 ⟨rfl, hk2⟩
  obtain ⟨g2, rfl⟩ := hk2.gen
  refine Rk.adv 6 (by kernel_rfl) ?_
  refine Rk.fin (v' := AV.bool true) (by kernel_rfl) (by kernel_rfl) (by kernel_rfl) ?_
  rfl
set_option maxHeartbeats 4000000 in
theorem cl63 {E : Env} (h : Has E 63 F63) (h78 : Has E 78 F78) (k vk vn : Int) (vs s : List Nat) {ks : List (List AV)} (hks : ks.length ≤ mx63) (hel : ∀ (i : Nat) (c : List AV), ks[i]? = some c → SameOk E c) : SameOk E (nd k vk vn vs s ks) := by
  refine ⟨⟨_, _, _, _, _, _, rfl⟩, fun H => ?_⟩
  refine Cl.frozen h _ rfl rfl rfl (by kernel_rfl) ?_
  have e1 : decide (k = k) = true := by simp
  have e2 : (decide (vk = vk) && (decide (vn = vn) && (decide (vs = vs) && true))) = true := by simp
  have e3 : decide (s = s) = true := by simp
  have hc := cl78 h78 hks hel
  clear hel
  refine Rk.adv 14 (by kernel_rfl) ?_
  refine Rk.know p10 (decide (k = k)) true (by kernel_rfl) e1 ?_
  refine Rk.adv 7 (by kernel_rfl) ?_
  refine Rk.know p17 ((fun r => decide (vk = vk) && r) ((fun r => decide (vn = vn) && r) ((fun r => decide (vs = vs) && r) true))) true (by kernel_rfl) e2 ?_
  refine Rk.adv 7 (by kernel_rfl) ?_
  refine Rk.know p24 (decide (s = s)) true (by kernel_rfl) e3 ?_
  refine Rk.adv 4 (by kernel_rfl) ?_
  refine Rk.call (as := [AV.lst ks, AV.lst ks, AV.fn 63 []]) (by kernel_rfl) (hc _) ?_
  refine Rk.adv 4 (by kernel_rfl) ?_
  refine Rk.fin (v' := AV.bool true) (by kernel_rfl) (by kernel_rfl) (by kernel_rfl) ?_
  rfl
theorem same_sd {E : Env} (h : Has E 63 F63) (h78 : Has E 78 F78) (k n : Int) (s : List Nat) : SameOk E (sd k n s) := cl63 h h78 1 k n s [] (by simp [mx63]) fun i c e => by simp at e
theorem same_two {E : Env} (h : Has E 63 F63) (h78 : Has E 78 F78) {a b : List AV} (ha : SameOk E a) (hb : SameOk E b) : SameOk E (nd 3 0 0 [] [] [a, b]) := cl63 h h78 3 0 0 [] [] (by simp [mx63]) fun i c e => by
  match i, e with
  | 0, e => simp at e; subst e; exact ha
  | 1, e => simp at e; subst e; exact hb
  | n + 2, e => simp at e
theorem same_hd {E : Env} (h : Has E 63 F63) (h78 : Has E 78 F78) (a : List Nat) (b : Bool) : SameOk E (hdOf a b) := by
  cases b with
  | false => exact same_sd h h78 7 0 a
  | true => exact same_two h h78 (same_sd h h78 7 0 a) (cl63 h h78 2 0 0 [] [98, 97, 99, 107] (by simp [mx63]) fun i c e => by simp at e)
theorem Br.nds_mem : ∀ {ts : List Br} {c : List AV}, c ∈ Br.nds ts → ∃ (i : Nat) (a : List Nat) (b : Bool) (ls : List Lf), ts[i]? = some (.mk a b ls) ∧ (c = hdOf a b ∨ c = nd 4 0 0 [] [] (Lf.nds ls))
  | [], c, h => by cases h
  | .mk a b ls :: r, c, h => by
    simp only [Br.nds, Br.nd2, List.mem_append, List.mem_cons, List.not_mem_nil, or_false] at h
    rcases h with h | h
    · exact ⟨0, a, b, ls, rfl, h⟩
    · obtain ⟨i, a', b', ls', e, q⟩ := Br.nds_mem h
      exact ⟨i + 1, a', b', ls', by simpa using e, q⟩
theorem Br.nds_len (ts : List Br) : (Br.nds ts).length = 2 * ts.length := by
  induction ts with
  | nil => rfl
  | cons x r ih =>
    cases x
    simp only [Br.nds, Br.nd2, List.length_append, List.length_cons, List.length_nil, ih]
    omega
theorem Lf.nds_len (l : List Lf) : (Lf.nds l).length = l.length := by rw [Lf.nds_map, List.length_map]
theorem same_node {E : Env} (h : Has E 63 F63) (h78 : Has E 78 F78) : ∀ (z : Nat) (ts : List Br), SizeOf.sizeOf ts < z → ts.length ≤ 10000 → Br.fws ts → SameOk E (nodeOf ts) := by
  intro z
  induction z with
  | zero => intro ts h; omega
  | succ z hi =>
    intro ts hz h1 h2
    refine cl63 h h78 5 0 0 [] [] (by rw [Br.nds_len]; unfold mx63; omega) fun i c e => ?_
    obtain ⟨i, a, b, ls, q1, q2⟩ := Br.nds_mem (List.mem_of_getElem? e)
    rcases q2 with rfl | rfl
    · exact same_hd h h78 a b
    · have f1 := Br.fws_at h2 q1
      refine cl63 h h78 4 0 0 [] [] (by rw [Lf.nds_len]; have := f1.2.1; unfold mx63; omega) fun k c e => ?_
      rw [Lf.nds_map, List.getElem?_map] at e
      obtain ⟨⟨kd, n, s, j, t⟩, e1, rfl⟩ := Option.map_eq_some_iff.1 e
      have f2 := Lf.fws_at f1.2.2 e1
      have := sub_lt q1 e1
      cases j with
      | false => exact same_sd h h78 kd n s
      | true => exact same_two h h78 (same_sd h h78 kd n s) (hi t (by omega) f2.1 f2.2)
end Go.EV

/- Weigh ends, whatever the tree. -/
namespace Go.EV
set_option maxRecDepth 100000
theorem w36_q {f : Fr} {n : Int} (h : f.get p4 = some (.int .i64 n)) : Q1 F36 (.int .i64 n) .ret f [] := by
  refine ⟨rfl, ?_⟩
  have : F36.results = [.t p4] := rfl
  simp only [this, evRes, optL, evRes1, h, Option.map_some, Option.bind_some]
  rfl
theorem w36_in {E : Env} {ts : List Br} {i : Nat} {a : List Nat} {b : Bool} {ls : List Lf} {dp : Int} {H : Hp} (hb : (Br.avs ts)[i]? = some [.str a, .bool b, .lst (Lf.avs ls)]) (hls : ls.length ≤ mx63)
    (ih : ∀ (k : Nat) (kd n : Int) (s : List Nat) (j : Bool) (t : List Br), ls[k]? = some (.mk kd n s j t) → ∃ f : Int → Int, ∀ d H, Cl E (.fn 36 []) [.lst (Br.avs t), .int .i64 d] H (.int .i64 (f d)) H) :
    ∀ (m k : Nat), ls.length - k = m → ∀ (n : Int) (f : Fr), Knows F36 f [(p5, .int .i64 n), (p7, .int .i64 (Int.ofNat k)), (p0, .lst (Br.avs ts)), (p1, .int .i64 dp), (p6, .int .i64 (Int.ofNat i))] →
    Rk E ⟨[.code c36_11], .norm, f, H⟩ (fun e f' H' => e = .exit 2 ∧ H' = H ∧ ∃ n', Knows F36 f' [(p5, .int .i64 n'), (p0, .lst (Br.avs ts)), (p1, .int .i64 dp), (p6, .int .i64 (Int.ofNat i))]) := by
  intro m
  induction m with
  | zero =>
    intro k hm n f hk
    obtain ⟨g, rfl⟩ := hk.gen
    have hlt : decide (Int.ofNat k < Int.ofNat (Lf.avs ls).length) = false := by rw [Lf.len]; simp; omega
    refine Rk.adv 7 (by kernel_rfl) ?_
    refine Rk.iaddr (l := Br.avs ts) (n := i) (c := [AV.str a, AV.bool b, AV.lst (Lf.avs ls)]) (es := 3) (by kernel_rfl) hb (by kernel_rfl) ?_
    refine Rk.adv 5 (by kernel_rfl) ?_
    refine Rk.know p38 (decide (Int.ofNat k < ↑(List.length (Lf.avs ls)))) false (by kernel_rfl) hlt ?_
    refine Rk.adv 8 (by kernel_rfl) ?_
    -- FIN
    refine Rk.doneK F36 (.exit 2) H [(p0, .lst (Br.avs ts)), (p1, .int .i64 dp), (p6, .int .i64 (Int.ofNat i))] [p5] (by kernel_rfl) (by kernel_rfl) (by kernel_rfl) (by kernel_rfl) (by kernel_rfl) (by kernel_rfl) ?_
    rintro f1 hk1 ⟨⟨n1, hn1⟩, -⟩
    exact ⟨rfl, rfl, n1, hk1.1, hn1, hk1.2⟩
  | succ m hi =>
    intro k hm n f hk
    obtain ⟨g, rfl⟩ := hk.gen
    have hlt : decide (Int.ofNat k < Int.ofNat (Lf.avs ls).length) = true := by rw [Lf.len]; simp; omega
    obtain ⟨⟨kd, nn, s, j, t⟩, hx⟩ : ∃ x, ls[k]? = some x := ⟨_, List.getElem?_eq_getElem (by omega)⟩
    obtain ⟨w, hw⟩ := ih k kd nn s j t hx
    have hl := Lf.at hx
    clear ih hx
    refine Rk.adv 7 (by kernel_rfl) ?_
    refine Rk.iaddr (l := Br.avs ts) (n := i) (c := [AV.str a, AV.bool b, AV.lst (Lf.avs ls)]) (es := 3) (by kernel_rfl) hb (by kernel_rfl) ?_
    refine Rk.adv 5 (by kernel_rfl) ?_
    refine Rk.know p38 (decide (Int.ofNat k < ↑(List.length (Lf.avs ls)))) true (by kernel_rfl) hlt ?_
    refine Rk.adv 4 (by kernel_rfl) ?_
    refine Rk.split p41 (decide (n ≤ 3000)) (by kernel_rfl) (fun h1 => ?_) (fun h1 => ?_)
    · refine Rk.adv 9 (by kernel_rfl) ?_
      refine Rk.iaddr (l := Br.avs ts) (n := i) (c := [AV.str a, AV.bool b, AV.lst (Lf.avs ls)]) (es := 3) (by kernel_rfl) hb (by kernel_rfl) ?_
      refine Rk.adv 3 (by kernel_rfl) ?_
      refine Rk.iaddr (l := Lf.avs ls) (n := k) (c := [AV.int IntKind.i64 kd, AV.int IntKind.i64 nn, AV.str s, AV.bool j, AV.lst (Br.avs t)]) (es := 5) (by kernel_rfl) hl (by kernel_rfl) ?_
      refine Rk.adv 8 (by kernel_rfl) ?_
      refine Rk.iaddr (l := Br.avs ts) (n := i) (c := [AV.str a, AV.bool b, AV.lst (Lf.avs ls)]) (es := 3) (by kernel_rfl) hb (by kernel_rfl) ?_
      refine Rk.adv 3 (by kernel_rfl) ?_
      refine Rk.iaddr (l := Lf.avs ls) (n := k) (c := [AV.int IntKind.i64 kd, AV.int IntKind.i64 nn, AV.str s, AV.bool j, AV.lst (Br.avs t)]) (es := 5) (by kernel_rfl) hl (by kernel_rfl) ?_
      refine Rk.adv 4 (by kernel_rfl) ?_
      refine Rk.call (as := [AV.lst (Br.avs t), AV.int IntKind.i64 (IntKind.wrap IntKind.i64 (dp + 1))]) (by kernel_rfl) (hw _ _) ?_
      refine Rk.adv 9 (by kernel_rfl) ?_
      -- LOOP
      refine Rk.inc p7 k (by kernel_rfl) (by unfold mx63 at hls; omega) ?_
      refine Rk.kn F36 [.code c36_11] H [(p7, .int .i64 (Int.ofNat (k + 1))), (p0, .lst (Br.avs ts)), (p1, .int .i64 dp), (p6, .int .i64 (Int.ofNat i))] [p5] (by kernel_rfl) (by kernel_rfl) (by kernel_rfl) (by kernel_rfl) (by kernel_rfl) (by kernel_rfl) ?_
      rintro f1 hk1 ⟨⟨n1, hn1⟩, -⟩
      exact hi (k + 1) (by omega) n1 f1 ⟨hk1.1, hn1, hk1.2⟩
    · refine Rk.adv 4 (by kernel_rfl) ?_
      -- FIN
      refine Rk.doneK F36 (.exit 2) H [(p0, .lst (Br.avs ts)), (p1, .int .i64 dp), (p6, .int .i64 (Int.ofNat i))] [p5] (by kernel_rfl) (by kernel_rfl) (by kernel_rfl) (by kernel_rfl) (by kernel_rfl) (by kernel_rfl) ?_
      rintro f1 hk1 ⟨⟨n1, hn1⟩, -⟩
      exact ⟨rfl, rfl, n1, hk1.1, hn1, hk1.2⟩
theorem w36_out {E : Env} {ts : List Br} {dp : Int} (hts : ts.length ≤ mx63) (hsm : Br.sms ts)
    (ih : ∀ (i : Nat) (a : List Nat) (b : Bool) (ls : List Lf) (k : Nat) (kd n : Int) (s : List Nat) (j : Bool) (t : List Br), ts[i]? = some (.mk a b ls) → ls[k]? = some (.mk kd n s j t) → ∃ f : Int → Int, ∀ d H, Cl E (.fn 36 []) [.lst (Br.avs t), .int .i64 d] H (.int .i64 (f d)) H) :
    ∀ (m i : Nat), ts.length - i = m → ∀ (n : Int) (f : Fr), Knows F36 f [(p5, .int .i64 n), (p6, .int .i64 (Int.ofNat i)), (p0, .lst (Br.avs ts)), (p1, .int .i64 dp)] →
    Rk E ⟨[.code c36_13], .norm, f, []⟩ (fun e f' H' => e = .exit 0 ∧ H' = [] ∧ ∃ n', Knows F36 f' [(p5, .int .i64 n')]) := by
  intro m
  induction m with
  | zero =>
    intro i hm n f hk
    obtain ⟨g, rfl⟩ := hk.gen
    have hlt : decide (Int.ofNat i < Int.ofNat (Br.avs ts).length) = false := by rw [Br.len]; simp; omega
    refine Rk.adv 9 (by kernel_rfl) ?_
    refine Rk.know p14 (decide (Int.ofNat i < ↑(List.length (Br.avs ts)))) false (by kernel_rfl) hlt ?_
    refine Rk.adv 8 (by kernel_rfl) ?_
    -- FIN
    refine Rk.doneK F36 (.exit 0) [] [] [p5] (by kernel_rfl) (by kernel_rfl) (by kernel_rfl) (by kernel_rfl) (by kernel_rfl) (by kernel_rfl) ?_
    rintro f1 hk1 ⟨⟨n1, hn1⟩, -⟩
    exact ⟨rfl, rfl, n1, hk1.1, hn1, trivial⟩
  | succ m hi =>
    intro i hm n f hk
    obtain ⟨g, rfl⟩ := hk.gen
    have hlt : decide (Int.ofNat i < Int.ofNat (Br.avs ts).length) = true := by rw [Br.len]; simp; omega
    obtain ⟨⟨a, b, ls⟩, hx⟩ : ∃ x, ts[i]? = some x := ⟨_, List.getElem?_eq_getElem (by omega)⟩
    have hb := Br.at hx
    have hls := Br.sms_at hsm hx
    have ih2 := ih i a b ls
    have ih3 := fun k kd n s j t => ih2 k kd n s j t hx
    clear ih ih2
    refine Rk.adv 9 (by kernel_rfl) ?_
    refine Rk.know p14 (decide (Int.ofNat i < ↑(List.length (Br.avs ts)))) true (by kernel_rfl) hlt ?_
    refine Rk.adv 4 (by kernel_rfl) ?_
    refine Rk.split p17 (decide (n ≤ 3000)) (by kernel_rfl) (fun h1 => ?_) (fun h1 => ?_)
    · refine Rk.adv 10 (by kernel_rfl) ?_
      refine Rk.iaddr (l := Br.avs ts) (n := i) (c := [AV.str a, AV.bool b, AV.lst (Lf.avs ls)]) (es := 3) (by kernel_rfl) hb (by kernel_rfl) ?_
      refine Rk.adv 12 (by kernel_rfl) ?_
      -- LOOP
      refine Rk.kn F36 [.code c36_11, .blk 2, .blk 1, .code c36_12, .code c36_13] [] [(p7, .int .i64 (Int.ofNat 0)), (p0, .lst (Br.avs ts)), (p1, .int .i64 dp), (p6, .int .i64 (Int.ofNat i))] [p5] (by kernel_rfl) (by kernel_rfl) (by kernel_rfl) (by kernel_rfl) (by kernel_rfl) (by kernel_rfl) ?_
      rintro f1 hk1 ⟨⟨n1, hn1⟩, -⟩
      refine Rk.trans (c := [.code c36_11]) (k := [.blk 2, .blk 1, .code c36_12, .code c36_13]) ((w36_in hb hls.1 ih3 _ 0 rfl n1 f1 ⟨hk1.1, hn1, hk1.2⟩).weak ?_)
      rintro _ f2 _ ⟨rfl, rfl, n2, hk2⟩
      obtain ⟨g2, rfl⟩ := hk2.gen
      refine Rk.adv 7 (by kernel_rfl) ?_
      -- LOOP
      refine Rk.inc p6 i (by kernel_rfl) (by unfold mx63 at hts; omega) ?_
      refine Rk.kn F36 [.code c36_13] [] [(p6, .int .i64 (Int.ofNat (i + 1))), (p0, .lst (Br.avs ts)), (p1, .int .i64 dp)] [p5] (by kernel_rfl) (by kernel_rfl) (by kernel_rfl) (by kernel_rfl) (by kernel_rfl) (by kernel_rfl) ?_
      rintro f3 hk3 ⟨⟨n3, hn3⟩, -⟩
      exact hi (i + 1) (by omega) n3 f3 ⟨hk3.1, hn3, hk3.2⟩
    · refine Rk.adv 4 (by kernel_rfl) ?_
      -- FIN
      refine Rk.doneK F36 (.exit 0) [] [] [p5] (by kernel_rfl) (by kernel_rfl) (by kernel_rfl) (by kernel_rfl) (by kernel_rfl) (by kernel_rfl) ?_
      rintro f1 hk1 ⟨⟨n1, hn1⟩, -⟩
      exact ⟨rfl, rfl, n1, hk1.1, hn1, trivial⟩
theorem w36_at {E : Env} (hh : Has E 36 F36) (ts : List Br) (hts : ts.length ≤ mx63) (hsm : Br.sms ts)
    (ih : ∀ (i : Nat) (a : List Nat) (b : Bool) (ls : List Lf) (k : Nat) (kd n : Int) (s : List Nat) (j : Bool) (t : List Br), ts[i]? = some (.mk a b ls) → ls[k]? = some (.mk kd n s j t) → ∃ f : Int → Int, ∀ d H, Cl E (.fn 36 []) [.lst (Br.avs t), .int .i64 d] H (.int .i64 (f d)) H) (d : Int) :
    ∃ w : Int, ∀ H, Cl E (.fn 36 []) [.lst (Br.avs ts), .int .i64 d] H (.int .i64 w) H := by
  have : ∃ w : Int, Rk E (start F36 [.lst (Br.avs ts), .int .i64 d] []) (Q1 F36 (.int .i64 w)) := by
    refine Rk.ex ?_
    refine Rk.adv 10 (by kernel_rfl) ?_
    refine Rk.split p9 (decide (60 < d)) (by kernel_rfl) (fun h1 => ?_) (fun h1 => ?_)
    · refine Rk.adv 7 (by kernel_rfl) ?_
      -- FIN
      refine Rk.doneK F36 .ret [] [(p4, .int .i64 10000)] [] (by kernel_rfl) (by kernel_rfl) (by kernel_rfl) (by kernel_rfl) (by kernel_rfl) (by kernel_rfl) ?_
      intro f1 hk1 _
      exact ⟨10000, w36_q hk1.2.1⟩
    · refine Rk.adv 12 (by kernel_rfl) ?_
      -- LOOP
      refine Rk.kn F36 [.code c36_13, .blk 0, .code (.seq c36_14 .ret)] [] [(p5, .int .i64 0), (p6, .int .i64 (Int.ofNat 0)), (p0, .lst (Br.avs ts)), (p1, .int .i64 d)] [] (by kernel_rfl) (by kernel_rfl) (by kernel_rfl) (by kernel_rfl) (by kernel_rfl) (by kernel_rfl) ?_
      intro f1 hk1 _
      refine Rk.trans (c := [.code c36_13]) (k := [.blk 0, .code (.seq c36_14 .ret)]) ((w36_out hts hsm ih _ 0 rfl 0 f1 hk1).weak ?_)
      rintro _ f2 _ ⟨rfl, rfl, n2, hk2⟩
      obtain ⟨g2, rfl⟩ := hk2.gen
      refine Rk.adv 7 (by kernel_rfl) ?_
      -- FIN
      refine Rk.doneK F36 .ret [] [(p4, .int .i64 n2)] [] (by kernel_rfl) (by kernel_rfl) (by kernel_rfl) (by kernel_rfl) (by kernel_rfl) (by kernel_rfl) ?_
      intro f1 hk1 _
      exact ⟨n2, w36_q hk1.2.1⟩
  obtain ⟨w, hw⟩ := this
  exact ⟨w, fun H => Cl.frozen hh _ rfl rfl rfl rfl hw⟩
theorem w36 {E : Env} (hh : Has E 36 F36) : ∀ (z : Nat) (ts : List Br), SizeOf.sizeOf ts < z → ts.length ≤ mx63 → Br.sms ts → ∃ f : Int → Int, ∀ d H, Cl E (.fn 36 []) [.lst (Br.avs ts), .int .i64 d] H (.int .i64 (f d)) H := by
  intro z
  induction z with
  | zero => intro ts h; omega
  | succ z hi =>
    intro ts h h1 h2
    have := w36_at hh ts h1 h2 fun i a b ls k kd n s j t e1 e2 => by
      have q1 := Br.sms_at h2 e1
      have q2 := Lf.sms_at q1.2.1 e2
      have := sub_lt e1 e2
      exact hi t (by omega) q2.1 q2.2.1
    exact ⟨fun d => Classical.choose (this d), fun d => Classical.choose_spec (this d)⟩
end Go.EV

/- A tree is the same as itself. -/
namespace Go.EV
set_option maxRecDepth 100000
set_option maxHeartbeats 4000000 in
theorem w37_in {E : Env} {ts : List Br} {i : Nat} {a : List Nat} {b : Bool} {ls : List Lf} (hb : (Br.avs ts)[i]? = some [.str a, .bool b, .lst (Lf.avs ls)]) (hls : ls.length ≤ mx63)
    (ih : ∀ (k : Nat) (kd n : Int) (s : List Nat) (j : Bool) (t : List Br), ls[k]? = some (.mk kd n s j t) → ∀ H, Cl E (.fn 37 []) [.lst (Br.avs t), .lst (Br.avs t)] H (.bool true) H) :
    ∀ (m k : Nat), ls.length - k = m → ∀ (f : Fr) (C : Hp), Knows F37 f [(p6, .int .i64 (Int.ofNat k)), (p0, .lst (Br.avs ts)), (p1, .lst (Br.avs ts)), (p5, .int .i64 (Int.ofNat i))] →
    Rk E ⟨[.code c37_14], .norm, f, C⟩ (fun e f' _ => e = .exit 2 ∧ Knows F37 f' [(p0, .lst (Br.avs ts)), (p1, .lst (Br.avs ts)), (p5, .int .i64 (Int.ofNat i))]) := by
  intro m
  induction m with
  | zero =>
    intro k hm f C hk
    obtain ⟨g, rfl⟩ := hk.gen
    have hlt : decide (Int.ofNat k < Int.ofNat (Lf.avs ls).length) = false := by rw [Lf.len]; simp; omega
    refine Rk.adv 7 (by kernel_rfl) ?_
    refine Rk.iaddr (l := Br.avs ts) (n := i) (c := [AV.str a, AV.bool b, AV.lst (Lf.avs ls)]) (es := 3) (by kernel_rfl) hb (by kernel_rfl) ?_
    refine Rk.adv 5 (by kernel_rfl) ?_
    refine Rk.know p66 (decide (Int.ofNat k < (↑(List.length (Lf.avs ls)) : Int))) false (by kernel_rfl) hlt ?_
    refine Rk.adv 4 (by kernel_rfl) ?_
    -- FIN
    refine Rk.doneK F37 (.exit 2) C [(p0, .lst (Br.avs ts)), (p1, .lst (Br.avs ts)), (p5, .int .i64 (Int.ofNat i))] [] (by kernel_rfl) (by kernel_rfl) (by kernel_rfl) (by kernel_rfl) (by kernel_rfl) (by kernel_rfl) ?_
    intro f1 hk1 _
    exact ⟨rfl, hk1⟩
  | succ m hi =>
    intro k hm f C hk
    obtain ⟨g, rfl⟩ := hk.gen
    have hlt : decide (Int.ofNat k < Int.ofNat (Lf.avs ls).length) = true := by rw [Lf.len]; simp; omega
    obtain ⟨⟨kd, nn, s, j, t⟩, hx⟩ : ∃ x, ls[k]? = some x := ⟨_, List.getElem?_eq_getElem (by omega)⟩
    have hw := ih k kd nn s j t hx
    have hl := Lf.at hx
    have e1 : (!(decide (kd = kd) && (decide (nn = nn) && (decide (s = s) && true)))) = false := by simp
    have e2 : (!(j == j)) = false := by simp
    obtain ⟨cl, hcl⟩ : ∃ cl, C.length = cl := ⟨_, rfl⟩
    clear ih hx
    rw [← List.append_nil C]
    refine Rk.adv 7 (by kernel_rfl) ?_
    refine Rk.iaddr (l := Br.avs ts) (n := i) (c := [AV.str a, AV.bool b, AV.lst (Lf.avs ls)]) (es := 3) (by kernel_rfl) hb (by kernel_rfl) ?_
    refine Rk.adv 5 (by kernel_rfl) ?_
    refine Rk.know p66 (decide (Int.ofNat k < (↑(List.length (Lf.avs ls)) : Int))) true (by kernel_rfl) hlt ?_
    refine Rk.adv 8 (by kernel_rfl) ?_
    refine Rk.iaddr (l := Br.avs ts) (n := i) (c := [AV.str a, AV.bool b, AV.lst (Lf.avs ls)]) (es := 3) (by kernel_rfl) hb (by kernel_rfl) ?_
    refine Rk.adv 3 (by kernel_rfl) ?_
    refine Rk.iaddr (l := Lf.avs ls) (n := k) (c := [AV.int IntKind.i64 kd, AV.int IntKind.i64 nn, AV.str s, AV.bool j, AV.lst (Br.avs t)]) (es := 5) (by kernel_rfl) hl (by kernel_rfl) ?_
    refine Rk.adv 1 (by kernel_rfl) ?_
    refine Rk.alloc hcl (H := C) (L := []) (ty := 76) (z := [AV.int IntKind.i64 0, AV.int IntKind.i64 0, AV.str [], AV.bool false, AV.nils]) 0 (by kernel_rfl) (by kernel_rfl) (by kernel_rfl) ?_
    refine Rk.store hcl (H := C) (L := [Blk.cells 1 76 [AV.int IntKind.i64 0, AV.int IntKind.i64 0, AV.str [], AV.bool false, AV.nils]]) (n := 5) (j := 0) (o := 0) (ty := 76) (cs := [AV.int IntKind.i64 0, AV.int IntKind.i64 0, AV.str [], AV.bool false, AV.nils]) (v := AV.agg [AV.int IntKind.i64 kd, AV.int IntKind.i64 nn, AV.str s, AV.bool j, AV.lst (Br.avs t)]) (by kernel_rfl) (by kernel_rfl) (by kernel_rfl) (by kernel_rfl) ?_
    refine Rk.adv 5 (by kernel_rfl) ?_
    refine Rk.iaddr (l := Br.avs ts) (n := i) (c := [AV.str a, AV.bool b, AV.lst (Lf.avs ls)]) (es := 3) (by kernel_rfl) hb (by kernel_rfl) ?_
    refine Rk.adv 3 (by kernel_rfl) ?_
    refine Rk.iaddr (l := Lf.avs ls) (n := k) (c := [AV.int IntKind.i64 kd, AV.int IntKind.i64 nn, AV.str s, AV.bool j, AV.lst (Br.avs t)]) (es := 5) (by kernel_rfl) hl (by kernel_rfl) ?_
    refine Rk.adv 1 (by kernel_rfl) ?_
    refine Rk.alloc hcl (H := C) (L := [Blk.cells 1 76 [AV.int IntKind.i64 kd, AV.int IntKind.i64 nn, AV.str s, AV.bool j, AV.lst (Br.avs t)]]) (ty := 76) (z := [AV.int IntKind.i64 0, AV.int IntKind.i64 0, AV.str [], AV.bool false, AV.nils]) 1 (by kernel_rfl) (by kernel_rfl) (by kernel_rfl) ?_
    refine Rk.store hcl (H := C) (L := [Blk.cells 1 76 [AV.int IntKind.i64 kd, AV.int IntKind.i64 nn, AV.str s, AV.bool j, AV.lst (Br.avs t)],
    Blk.cells 1 76 [AV.int IntKind.i64 0, AV.int IntKind.i64 0, AV.str [], AV.bool false, AV.nils]]) (n := 5) (j := 1) (o := 0) (ty := 76) (cs := [AV.int IntKind.i64 0, AV.int IntKind.i64 0, AV.str [], AV.bool false, AV.nils]) (v := AV.agg [AV.int IntKind.i64 kd, AV.int IntKind.i64 nn, AV.str s, AV.bool j, AV.lst (Br.avs t)]) (by kernel_rfl) (by kernel_rfl) (by kernel_rfl) (by kernel_rfl) ?_
    refine Rk.adv 4 (by kernel_rfl) ?_
    refine Rk.load hcl (H := C) (L := [Blk.cells 1 76 [AV.int IntKind.i64 kd, AV.int IntKind.i64 nn, AV.str s, AV.bool j, AV.lst (Br.avs t)],
    Blk.cells 1 76 [AV.int IntKind.i64 kd, AV.int IntKind.i64 nn, AV.str s, AV.bool j, AV.lst (Br.avs t)]]) (n := 3) (ag := true) (j := 0) (o := 0) (st := 1) (ty := 76) (cs := [AV.int IntKind.i64 kd, AV.int IntKind.i64 nn, AV.str s, AV.bool j, AV.lst (Br.avs t)]) (v := AV.agg [AV.int IntKind.i64 kd, AV.int IntKind.i64 nn, AV.str s]) (by kernel_rfl) (by kernel_rfl) (by kernel_rfl) (by kernel_rfl) ?_
    refine Rk.adv 1 (by kernel_rfl) ?_
    refine Rk.load hcl (H := C) (L := [Blk.cells 1 76 [AV.int IntKind.i64 kd, AV.int IntKind.i64 nn, AV.str s, AV.bool j, AV.lst (Br.avs t)],
    Blk.cells 1 76 [AV.int IntKind.i64 kd, AV.int IntKind.i64 nn, AV.str s, AV.bool j, AV.lst (Br.avs t)]]) (n := 3) (ag := true) (j := 1) (o := 0) (st := 1) (ty := 76) (cs := [AV.int IntKind.i64 kd, AV.int IntKind.i64 nn, AV.str s, AV.bool j, AV.lst (Br.avs t)]) (v := AV.agg [AV.int IntKind.i64 kd, AV.int IntKind.i64 nn, AV.str s]) (by kernel_rfl) (by kernel_rfl) (by kernel_rfl) (by kernel_rfl) ?_
    refine Rk.adv 2 (by kernel_rfl) ?_
    refine Rk.know p90 (!(fun r => decide (kd = kd) && r) ((fun r => decide (nn = nn) && r) ((fun r => decide (s = s) && r) true))) false (by kernel_rfl) e1 ?_
    refine Rk.adv 1 (by kernel_rfl) ?_
    refine Rk.load hcl (H := C) (L := [Blk.cells 1 76 [AV.int IntKind.i64 kd, AV.int IntKind.i64 nn, AV.str s, AV.bool j, AV.lst (Br.avs t)],
    Blk.cells 1 76 [AV.int IntKind.i64 kd, AV.int IntKind.i64 nn, AV.str s, AV.bool j, AV.lst (Br.avs t)]]) (n := 1) (ag := false) (j := 0) (o := 3) (st := 1) (ty := 76) (cs := [AV.int IntKind.i64 kd, AV.int IntKind.i64 nn, AV.str s, AV.bool j, AV.lst (Br.avs t)]) (v := AV.bool j) (by kernel_rfl) (by kernel_rfl) (by kernel_rfl) (by kernel_rfl) ?_
    refine Rk.adv 1 (by kernel_rfl) ?_
    refine Rk.load hcl (H := C) (L := [Blk.cells 1 76 [AV.int IntKind.i64 kd, AV.int IntKind.i64 nn, AV.str s, AV.bool j, AV.lst (Br.avs t)],
    Blk.cells 1 76 [AV.int IntKind.i64 kd, AV.int IntKind.i64 nn, AV.str s, AV.bool j, AV.lst (Br.avs t)]]) (n := 1) (ag := false) (j := 1) (o := 3) (st := 1) (ty := 76) (cs := [AV.int IntKind.i64 kd, AV.int IntKind.i64 nn, AV.str s, AV.bool j, AV.lst (Br.avs t)]) (v := AV.bool j) (by kernel_rfl) (by kernel_rfl) (by kernel_rfl) (by kernel_rfl) ?_
    refine Rk.adv 3 (by kernel_rfl) ?_
    refine Rk.know p97 (!j == j) false (by kernel_rfl) e2 ?_
    refine Rk.adv 1 (by kernel_rfl) ?_
    refine Rk.load hcl (H := C) (L := [Blk.cells 1 76 [AV.int IntKind.i64 kd, AV.int IntKind.i64 nn, AV.str s, AV.bool j, AV.lst (Br.avs t)],
    Blk.cells 1 76 [AV.int IntKind.i64 kd, AV.int IntKind.i64 nn, AV.str s, AV.bool j, AV.lst (Br.avs t)]]) (n := 1) (ag := false) (j := 0) (o := 4) (st := 1) (ty := 76) (cs := [AV.int IntKind.i64 kd, AV.int IntKind.i64 nn, AV.str s, AV.bool j, AV.lst (Br.avs t)]) (v := AV.lst (Br.avs t)) (by kernel_rfl) (by kernel_rfl) (by kernel_rfl) (by kernel_rfl) ?_
    refine Rk.adv 1 (by kernel_rfl) ?_
    refine Rk.load hcl (H := C) (L := [Blk.cells 1 76 [AV.int IntKind.i64 kd, AV.int IntKind.i64 nn, AV.str s, AV.bool j, AV.lst (Br.avs t)],
    Blk.cells 1 76 [AV.int IntKind.i64 kd, AV.int IntKind.i64 nn, AV.str s, AV.bool j, AV.lst (Br.avs t)]]) (n := 1) (ag := false) (j := 1) (o := 4) (st := 1) (ty := 76) (cs := [AV.int IntKind.i64 kd, AV.int IntKind.i64 nn, AV.str s, AV.bool j, AV.lst (Br.avs t)]) (v := AV.lst (Br.avs t)) (by kernel_rfl) (by kernel_rfl) (by kernel_rfl) (by kernel_rfl) ?_
    refine Rk.callH (H := C ++
    [Blk.cells 1 76 [AV.int IntKind.i64 kd, AV.int IntKind.i64 nn, AV.str s, AV.bool j, AV.lst (Br.avs t)],
      Blk.cells 1 76 [AV.int IntKind.i64 kd, AV.int IntKind.i64 nn, AV.str s, AV.bool j, AV.lst (Br.avs t)]]) (hH := by kernel_rfl) (as := [AV.lst (Br.avs t), AV.lst (Br.avs t)]) (by kernel_rfl) (hw _) ?_
    refine Rk.adv 11 (by kernel_rfl) ?_
    -- LOOP
    refine Rk.inc p6 k (by kernel_rfl) (by unfold mx63 at hls; omega) ?_
    refine Rk.kn F37 [.code c37_14] (C ++
      [Blk.cells 1 76 [AV.int IntKind.i64 kd, AV.int IntKind.i64 nn, AV.str s, AV.bool j, AV.lst (Br.avs t)],
        Blk.cells 1 76 [AV.int IntKind.i64 kd, AV.int IntKind.i64 nn, AV.str s, AV.bool j, AV.lst (Br.avs t)]]) [(p6, .int .i64 (Int.ofNat (k + 1))), (p0, .lst (Br.avs ts)), (p1, .lst (Br.avs ts)), (p5, .int .i64 (Int.ofNat i))] [] (by kernel_rfl) (by kernel_rfl) (by kernel_rfl) (by kernel_rfl) (by kernel_rfl) (by kernel_rfl) ?_
    intro f1 hk1 _
    exact hi (k + 1) (by omega) f1 _ hk1
set_option maxHeartbeats 4000000 in
theorem w37_out {E : Env} {ts : List Br} (hts : ts.length ≤ mx63) (hsm : Br.sms ts)
    (ih : ∀ (i : Nat) (a : List Nat) (b : Bool) (ls : List Lf) (k : Nat) (kd n : Int) (s : List Nat) (j : Bool) (t : List Br), ts[i]? = some (.mk a b ls) → ls[k]? = some (.mk kd n s j t) → ∀ H, Cl E (.fn 37 []) [.lst (Br.avs t), .lst (Br.avs t)] H (.bool true) H) :
    ∀ (m i : Nat), ts.length - i = m → ∀ (f : Fr) (C : Hp), Knows F37 f [(p5, .int .i64 (Int.ofNat i)), (p0, .lst (Br.avs ts)), (p1, .lst (Br.avs ts))] →
    Rk E ⟨[.code c37_16], .norm, f, C⟩ (fun e f' _ => e = .exit 0 ∧ Knows F37 f' []) := by
  intro m
  induction m with
  | zero =>
    intro i hm f C hk
    obtain ⟨g, rfl⟩ := hk.gen
    have hlt : decide (Int.ofNat i < Int.ofNat (Br.avs ts).length) = false := by rw [Br.len]; simp; omega
    refine Rk.adv 9 (by kernel_rfl) ?_
    refine Rk.know p17 (decide (Int.ofNat i < (↑(List.length (Br.avs ts)) : Int))) false (by kernel_rfl) hlt ?_
    refine Rk.adv 4 (by kernel_rfl) ?_
    -- FIN
    refine Rk.doneK F37 (.exit 0) C [] [] (by kernel_rfl) (by kernel_rfl) (by kernel_rfl) (by kernel_rfl) (by kernel_rfl) (by kernel_rfl) ?_
    intro f1 hk1 _
    exact ⟨rfl, hk1⟩
  | succ m hi =>
    intro i hm f C hk
    obtain ⟨g, rfl⟩ := hk.gen
    have hlt : decide (Int.ofNat i < Int.ofNat (Br.avs ts).length) = true := by rw [Br.len]; simp; omega
    obtain ⟨⟨a, b, ls⟩, hx⟩ : ∃ x, ts[i]? = some x := ⟨_, List.getElem?_eq_getElem (by omega)⟩
    have hb := Br.at hx
    have hls := Br.sms_at hsm hx
    have ih2 := ih i a b ls
    have ih3 := fun k kd n s j t => ih2 k kd n s j t hx
    have e1 : (!decide (a = a)) = false := by simp
    have e2 : (!(b == b)) = false := by simp
    have e3 : (!decide (Int.ofNat (Lf.avs ls).length = Int.ofNat (Lf.avs ls).length)) = false := by simp
    clear ih ih2
    refine Rk.adv 9 (by kernel_rfl) ?_
    refine Rk.know p17 (decide (Int.ofNat i < (↑(List.length (Br.avs ts)) : Int))) true (by kernel_rfl) hlt ?_
    refine Rk.adv 9 (by kernel_rfl) ?_
    refine Rk.iaddr (l := Br.avs ts) (n := i) (c := [AV.str a, AV.bool b, AV.lst (Lf.avs ls)]) (es := 3) (by kernel_rfl) hb (by kernel_rfl) ?_
    refine Rk.adv 4 (by kernel_rfl) ?_
    refine Rk.iaddr (l := Br.avs ts) (n := i) (c := [AV.str a, AV.bool b, AV.lst (Lf.avs ls)]) (es := 3) (by kernel_rfl) hb (by kernel_rfl) ?_
    refine Rk.adv 4 (by kernel_rfl) ?_
    refine Rk.know p31 (!decide (a = a)) false (by kernel_rfl) e1 ?_
    refine Rk.adv 2 (by kernel_rfl) ?_
    refine Rk.iaddr (l := Br.avs ts) (n := i) (c := [AV.str a, AV.bool b, AV.lst (Lf.avs ls)]) (es := 3) (by kernel_rfl) hb (by kernel_rfl) ?_
    refine Rk.adv 4 (by kernel_rfl) ?_
    refine Rk.iaddr (l := Br.avs ts) (n := i) (c := [AV.str a, AV.bool b, AV.lst (Lf.avs ls)]) (es := 3) (by kernel_rfl) hb (by kernel_rfl) ?_
    refine Rk.adv 5 (by kernel_rfl) ?_
    refine Rk.know p44 (!b == b) false (by kernel_rfl) e2 ?_
    refine Rk.adv 2 (by kernel_rfl) ?_
    refine Rk.iaddr (l := Br.avs ts) (n := i) (c := [AV.str a, AV.bool b, AV.lst (Lf.avs ls)]) (es := 3) (by kernel_rfl) hb (by kernel_rfl) ?_
    refine Rk.adv 5 (by kernel_rfl) ?_
    refine Rk.iaddr (l := Br.avs ts) (n := i) (c := [AV.str a, AV.bool b, AV.lst (Lf.avs ls)]) (es := 3) (by kernel_rfl) hb (by kernel_rfl) ?_
    refine Rk.adv 6 (by kernel_rfl) ?_
    refine Rk.know p58 (!decide ((↑(List.length (Lf.avs ls)) : Int) = (↑(List.length (Lf.avs ls)) : Int))) false (by kernel_rfl) e3 ?_
    refine Rk.adv 7 (by kernel_rfl) ?_
    -- LOOP
    refine Rk.kn F37 [.code c37_14, .blk 2, .blk 1, .code c37_15, .code c37_16] C [(p6, .int .i64 (Int.ofNat 0)), (p0, .lst (Br.avs ts)), (p1, .lst (Br.avs ts)), (p5, .int .i64 (Int.ofNat i))] [] (by kernel_rfl) (by kernel_rfl) (by kernel_rfl) (by kernel_rfl) (by kernel_rfl) (by kernel_rfl) ?_
    intro f1 hk1 _
    refine Rk.trans (c := [.code c37_14]) (k := [.blk 2, .blk 1, .code c37_15, .code c37_16]) ((w37_in hb hls.1 ih3 _ 0 rfl f1 C hk1).weak ?_)
    rintro _ f2 C2 ⟨rfl, hk2⟩
    obtain ⟨g2, rfl⟩ := hk2.gen
    refine Rk.adv 7 (by kernel_rfl) ?_
    -- LOOP
    refine Rk.inc p5 i (by kernel_rfl) (by unfold mx63 at hts; omega) ?_
    refine Rk.kn F37 [.code c37_16] C2 [(p5, .int .i64 (Int.ofNat (i + 1))), (p0, .lst (Br.avs ts)), (p1, .lst (Br.avs ts))] [] (by kernel_rfl) (by kernel_rfl) (by kernel_rfl) (by kernel_rfl) (by kernel_rfl) (by kernel_rfl) ?_
    intro f3 hk3 _
    exact hi (i + 1) (by omega) f3 _ hk3
set_option maxHeartbeats 4000000 in
theorem w37 {E : Env} (h : Has E 37 F37) : ∀ (z : Nat) (ts : List Br), SizeOf.sizeOf ts < z → ts.length ≤ mx63 → Br.sms ts → ∀ H, Cl E (.fn 37 []) [.lst (Br.avs ts), .lst (Br.avs ts)] H (.bool true) H := by
  intro z
  induction z with
  | zero => intro ts h; omega
  | succ z hi =>
    intro ts hz hts hsm H
    have ih : ∀ (i : Nat) (a : List Nat) (b : Bool) (ls : List Lf) (k : Nat) (kd n : Int) (s : List Nat) (j : Bool) (t : List Br), ts[i]? = some (.mk a b ls) → ls[k]? = some (.mk kd n s j t) → ∀ H, Cl E (.fn 37 []) [.lst (Br.avs t), .lst (Br.avs t)] H (.bool true) H := fun i a b ls k kd n s j t e1 e2 => by
      have q1 := Br.sms_at hsm e1
      have q2 := Lf.sms_at q1.2.1 e2
      have := sub_lt e1 e2
      exact hi t (by omega) q2.1 q2.2.1
    refine Cl.frozen h _ rfl rfl rfl (by kernel_rfl) ?_
    have hne : (!decide (Int.ofNat (Br.avs ts).length = Int.ofNat (Br.avs ts).length)) = false := by simp
    clear hi
    refine Rk.adv 13 (by kernel_rfl) ?_
    refine Rk.know p13 (!decide ((↑(List.length (Br.avs ts)) : Int) = (↑(List.length (Br.avs ts)) : Int))) false (by kernel_rfl) hne ?_
    refine Rk.adv 8 (by kernel_rfl) ?_
    -- LOOP
    refine Rk.kn F37 [.code c37_16, .blk 0, .code (.seq c37_17 .ret)] [] [(p5, .int .i64 (Int.ofNat 0)), (p0, .lst (Br.avs ts)), (p1, .lst (Br.avs ts))] [] (by kernel_rfl) (by kernel_rfl) (by kernel_rfl) (by kernel_rfl) (by kernel_rfl) (by kernel_rfl) ?_
    intro f1 hk1 _
    refine Rk.trans (c := [.code c37_16]) (k := [.blk 0, .code (.seq c37_17 .ret)]) ((w37_out hts hsm ih _ 0 rfl f1 _ hk1).weak ?_)
    rintro _ f2 C2 ⟨rfl, hk2⟩
    obtain ⟨g2, rfl⟩ := hk2.gen
    refine Rk.adv 6 (by kernel_rfl) ?_
    refine Rk.fin (v' := AV.bool true) (by kernel_rfl) (by kernel_rfl) (by kernel_rfl) ?_
    rfl
end Go.EV

/- What values and branches are asked for: that it ends, by the data alone. -/
namespace Go.EV
set_option maxRecDepth 100000
theorem cl182 {E : Env} (h : Has E 182 F182) (x : Int) : ∃ w : Bool, ∀ H, Cl E (.fn 182 []) [.int .i64 x] H (.bool w) H := by
  refine Cl.frozenE h _ (g := fun w => .bool w) rfl (fun _ => rfl) (fun _ => rfl) (by kernel_rfl) ?_
  refine Rk.adv 12 (by kernel_rfl) ?_
  -- FIN
  exact Rk.finB (by kernel_rfl) (by kernel_rfl) (by kernel_rfl)
theorem cl141 {E : Env} (h : Has E 141 F141) (h2 : Has E 182 F182) (x y : Int) : ∃ w : Int, ∀ H, Cl E (.fn 141 []) [.int .i64 x, .int .i64 y] H (.int .i64 w) H := by
  refine Cl.frozenE h _ (g := fun w => .int .i64 w) rfl (fun _ => rfl) (fun _ => rfl) (by kernel_rfl) ?_
  obtain ⟨w1, hw1⟩ := cl182 h2 x
  obtain ⟨w2, hw2⟩ := cl182 h2 y
  refine Rk.adv 7 (by kernel_rfl) ?_
  refine Rk.call (as := [AV.int IntKind.i64 x]) (by kernel_rfl) (hw1 _) ?_
  refine Rk.adv 5 (by kernel_rfl) ?_
  refine Rk.call (as := [AV.int IntKind.i64 y]) (by kernel_rfl) (hw2 _) ?_
  refine Rk.adv 7 (by kernel_rfl) ?_
  refine Rk.split p11 (w1) (by kernel_rfl) (fun h1 => ?_) (fun h1 => ?_)
  · refine Rk.adv 6 (by kernel_rfl) ?_
    refine Rk.split p12 (w2) (by kernel_rfl) (fun h2 => ?_) (fun h2 => ?_)
    · refine Rk.adv 8 (by kernel_rfl) ?_
      -- FIN
      exact Rk.finI (by kernel_rfl) (by kernel_rfl) (by kernel_rfl)
    · refine Rk.adv 8 (by kernel_rfl) ?_
      -- FIN
      exact Rk.finI (by kernel_rfl) (by kernel_rfl) (by kernel_rfl)
  · refine Rk.adv 7 (by kernel_rfl) ?_
    refine Rk.split p13 (w2) (by kernel_rfl) (fun h2 => ?_) (fun h2 => ?_)
    · refine Rk.adv 7 (by kernel_rfl) ?_
      -- FIN
      exact Rk.finI (by kernel_rfl) (by kernel_rfl) (by kernel_rfl)
    · refine Rk.adv 9 (by kernel_rfl) ?_
      refine Rk.split p16 (decide (x < y)) (by kernel_rfl) (fun h3 => ?_) (fun h3 => ?_)
      · refine Rk.adv 7 (by kernel_rfl) ?_
        -- FIN
        exact Rk.finI (by kernel_rfl) (by kernel_rfl) (by kernel_rfl)
      · refine Rk.adv 9 (by kernel_rfl) ?_
        refine Rk.split p19 (decide (y < x)) (by kernel_rfl) (fun h4 => ?_) (fun h4 => ?_)
        · refine Rk.adv 7 (by kernel_rfl) ?_
          -- FIN
          exact Rk.finI (by kernel_rfl) (by kernel_rfl) (by kernel_rfl)
        · refine Rk.adv 7 (by kernel_rfl) ?_
          -- FIN
          exact Rk.finI (by kernel_rfl) (by kernel_rfl) (by kernel_rfl)
theorem cl142 {E : Env} (h : Has E 142 F142) (x : Bool) : ∃ w : Int, ∀ H, Cl E (.fn 142 []) [.bool x] H (.int .i64 w) H := by
  refine Cl.frozenE h _ (g := fun w => .int .i64 w) rfl (fun _ => rfl) (fun _ => rfl) (by kernel_rfl) ?_
  refine Rk.adv 9 (by kernel_rfl) ?_
  refine Rk.split p3 (x) (by kernel_rfl) (fun h1 => ?_) (fun h1 => ?_)
  · refine Rk.adv 7 (by kernel_rfl) ?_
    -- FIN
    exact Rk.finI (by kernel_rfl) (by kernel_rfl) (by kernel_rfl)
  · refine Rk.adv 7 (by kernel_rfl) ?_
    -- FIN
    exact Rk.finI (by kernel_rfl) (by kernel_rfl) (by kernel_rfl)
theorem cl139 {E : Env} (h : Has E 139 F139) (x y : Int) : ∃ w : Int, ∀ H, Cl E (.fn 139 []) [.lst [[.int .i64 x], [.int .i64 y]]] H (.int .i64 w) H := by
  refine Cl.frozenE h _ (g := fun w => .int .i64 w) rfl (fun _ => rfl) (fun _ => rfl) (by kernel_rfl) ?_
  refine Rk.adv 38 (by kernel_rfl) ?_
  refine Rk.split p14 (!decide (x = 0)) (by kernel_rfl) (fun h1 => ?_) (fun h1 => ?_)
  · refine Rk.adv 12 (by kernel_rfl) ?_
    -- FIN
    exact Rk.finI (by kernel_rfl) (by kernel_rfl) (by kernel_rfl)
  · refine Rk.adv 29 (by kernel_rfl) ?_
    refine Rk.split p14 (!decide (y = 0)) (by kernel_rfl) (fun h2 => ?_) (fun h2 => ?_)
    · refine Rk.adv 12 (by kernel_rfl) ?_
      -- FIN
      exact Rk.finI (by kernel_rfl) (by kernel_rfl) (by kernel_rfl)
    · refine Rk.adv 24 (by kernel_rfl) ?_
      -- FIN
      exact Rk.finI (by kernel_rfl) (by kernel_rfl) (by kernel_rfl)
theorem cl139s {E : Env} (h : Has E 139 F139) (x y : Int) : ∃ w : Int, ∀ (H : Hp) (b st ty : Nat), H[b]? = some (.cells st ty [.int .i64 x, .int .i64 y]) → Cl E (.fn 139 []) [.sl 1 b 0 2] H (.int .i64 w) (markRo H b) := by
  have : ∃ w, Rk E (start F139 [.lst [[.int .i64 x], [.int .i64 y]]] []) (Q1 F139 (.int .i64 w)) := by
    refine Rk.ex ?_
    refine Rk.adv 38 (by kernel_rfl) ?_
    refine Rk.split p14 (!decide (x = 0)) (by kernel_rfl) (fun h1 => ?_) (fun h1 => ?_)
    · refine Rk.adv 12 (by kernel_rfl) ?_
      -- FIN
      exact Rk.finI (by kernel_rfl) (by kernel_rfl) (by kernel_rfl)
    · refine Rk.adv 29 (by kernel_rfl) ?_
      refine Rk.split p14 (!decide (y = 0)) (by kernel_rfl) (fun h2 => ?_) (fun h2 => ?_)
      · refine Rk.adv 12 (by kernel_rfl) ?_
        -- FIN
        exact Rk.finI (by kernel_rfl) (by kernel_rfl) (by kernel_rfl)
      · refine Rk.adv 24 (by kernel_rfl) ?_
        -- FIN
        exact Rk.finI (by kernel_rfl) (by kernel_rfl) (by kernel_rfl)
  obtain ⟨w, hw⟩ := this
  refine ⟨w, fun H b st ty hb => ?_⟩
  have := Cl.mode1 (E := E) (k := 139) (F := F139) (as := [.sl 1 b 0 2]) (caps := []) (vs := [.lst [[.int .i64 x], [.int .i64 y]]]) (H := H) (f := startF F139 [.lst [[.int .i64 x], [.int .i64 y]]]) (v := .int .i64 w) (d := 8) (h.pr _ _) h.fs rfl
    (by simp only [List.append_nil, optL, frz, Nat.zero_le, if_true, hb]; rfl) (by kernel_rfl) (hw.weak fun e f H hq => ⟨isEx_spec hq.1, by
      unfold Q1 at hq
      cases h1 : evRes f H F139.results with
      | none => rw [h1] at hq; cases hq.2
      | some v0 => rw [h1] at hq; exact ⟨v0, 8, rfl, hq.2⟩⟩)
  have e : ([AV.sl 1 b 0 2] ++ []).flatMap (frzB H 8) = [b] := by
    simp only [List.append_nil, List.flatMap_cons, List.flatMap_nil, frzB, hb]
    rfl
  rw [e] at this
  exact this
theorem cl96 {fs : Nat → Option CF} {pr : Nat → List AV → Hp → Option (AV × Hp)} (h : Has (E3 fs pr) 96 F96) (h1 : Has (E3 fs pr) 139 F139) (h2 : Has (E3 fs pr) 141 F141) (h3 : Has (E3 fs pr) 142 F142) (h4 : Has (E3 fs pr) 182 F182) (h5 : ∀ l H, pr 140 l H = prS 140 l H) (a a' : List Nat) (b b' : Bool) (l l' : List (List AV)) :
    ∃ w : Int, ∀ H, Cl (E3 fs pr) (.fn 96 []) [.agg [.str a, .bool b, .lst l], .agg [.str a', .bool b', .lst l']] H (.int .i64 w) H := by
  refine Cl.frozenE h _ (g := fun w => .int .i64 w) rfl (fun _ => rfl) (fun _ => rfl) (by kernel_rfl) ?_
  obtain ⟨v1, hv1⟩ : ∃ v : Int, ∀ H, Cl (E3 fs pr) (.fn 140 []) [.str a, .str a'] H (.int .i64 v) H := ⟨_, fun H => Cl.prim (by rw [List.append_nil]; exact h5 _ _)⟩
  obtain ⟨v2, hv2⟩ := cl142 h3 b
  obtain ⟨v3, hv3⟩ := cl142 h3 b'
  obtain ⟨v4, hv4⟩ := cl141 h2 h4 v2 v3
  obtain ⟨v5, hv5⟩ := cl139s h1 v1 v4
  have hv6 : ∀ H : Hp, H[2]? = some (.cells 1 3 [.int .i64 v1, .int .i64 v4]) → Cl (E3 fs pr) (.fn 139 []) [.sl 1 2 0 2] H (.int .i64 v5) (markRo H 2) := fun H h => hv5 H 2 1 3 h
  clear hv5
  refine Rk.adv 16 (by kernel_rfl) ?_
  refine Rk.call (as := [AV.str a, AV.str a']) (by kernel_rfl) (hv1 _) ?_
  refine Rk.call (as := [AV.bool b]) (by kernel_rfl) (hv2 _) ?_
  refine Rk.call (as := [AV.bool b']) (by kernel_rfl) (hv3 _) ?_
  refine Rk.call (as := [AV.int IntKind.i64 v2, AV.int IntKind.i64 v3]) (by kernel_rfl) (hv4 _) ?_
  refine Rk.adv 1 (by kernel_rfl) ?_
  refine Rk.call (as := [AV.sl 1 2 0 2]) (by kernel_rfl) (hv6 _ (by kernel_rfl)) ?_
  refine Rk.adv 3 (by kernel_rfl) ?_
  -- FIN
  exact Rk.finI (by kernel_rfl) (by kernel_rfl) (by kernel_rfl)
theorem w154_in {E : Env} {s : List Nat} (hs : s.length ≤ mx63) :
    ∀ (m k : Nat), s.length - k = m → ∀ (f : Fr), Knows F154 f [(p0, .str s), (p6, .lst (bytesAV s)), (p7, .int .i64 (Int.ofNat (bytesAV s).length)), (p8, .int .i64 (Int.ofNat k))] →
    Rk E ⟨[.code c154_8], .norm, f, []⟩ (fun e f' H' => H' = [] ∧ (e = .exit 0 ∧ Knows F154 f' [(p0, .str s)] ∨ e = .ret ∧ Knows F154 f' [(p2, .bool false)])) := by
  intro m
  induction m with
  | zero =>
    intro k hm f hk
    obtain ⟨g, rfl⟩ := hk.gen
    have hlt : decide (Int.ofNat k < Int.ofNat (bytesAV s).length) = false := by rw [bytesAV_len]; simp; omega
    refine Rk.adv 6 (by kernel_rfl) ?_
    refine Rk.know p9 (decide (Int.ofNat k < Int.ofNat (List.length (bytesAV s)))) false (by kernel_rfl) hlt ?_
    refine Rk.adv 4 (by kernel_rfl) ?_
    -- FIN
    refine Rk.doneK F154 (.exit 0) [] [(p0, .str s)] [] (by kernel_rfl) (by kernel_rfl) (by kernel_rfl) (by kernel_rfl) (by kernel_rfl) (by kernel_rfl) ?_
    intro f1 hk1 _
    exact ⟨rfl, .inl ⟨rfl, hk1⟩⟩
  | succ m hi =>
    intro k hm f hk
    obtain ⟨g, rfl⟩ := hk.gen
    have hlt : decide (Int.ofNat k < Int.ofNat (bytesAV s).length) = true := by rw [bytesAV_len]; simp; omega
    obtain ⟨b, hx⟩ : ∃ b, s[k]? = some b := ⟨_, List.getElem?_eq_getElem (by omega)⟩
    have hl := bytesAV_at hx
    clear hx
    refine Rk.adv 6 (by kernel_rfl) ?_
    refine Rk.know p9 (decide (Int.ofNat k < Int.ofNat (List.length (bytesAV s)))) true (by kernel_rfl) hlt ?_
    refine Rk.adv 7 (by kernel_rfl) ?_
    refine Rk.iaddr (l := bytesAV s) (n := k) (c := [AV.int IntKind.u8 (Int.ofNat b)]) (es := 1) (by kernel_rfl) hl (by kernel_rfl) ?_
    refine Rk.adv 10 (by kernel_rfl) ?_
    refine Rk.split p16 (decide (97 ≤ Int.ofNat b)) (by kernel_rfl) (fun h1 => ?_) (fun h1 => ?_)
    · refine Rk.adv 5 (by kernel_rfl) ?_
      refine Rk.split p13 (decide (Int.ofNat b ≤ 122)) (by kernel_rfl) (fun h2 => ?_) (fun h2 => ?_)
      · refine Rk.adv 8 (by kernel_rfl) ?_
        -- LOOP
        refine Rk.inc p8 k (by kernel_rfl) (by unfold mx63 at hs; omega) ?_
        refine Rk.kn F154 [.code c154_8] [] [(p0, .str s), (p6, .lst (bytesAV s)), (p7, .int .i64 (Int.ofNat (bytesAV s).length)), (p8, .int .i64 (Int.ofNat (k + 1)))] [] (by kernel_rfl) (by kernel_rfl) (by kernel_rfl) (by kernel_rfl) (by kernel_rfl) (by kernel_rfl) ?_
        intro f1 hk1 _
        exact hi (k + 1) (by omega) f1 hk1
      · refine Rk.adv 6 (by kernel_rfl) ?_
        refine Rk.split p23 (decide (0 < Int.ofNat k)) (by kernel_rfl) (fun h3 => ?_) (fun h3 => ?_)
        · refine Rk.adv 3 (by kernel_rfl) ?_
          refine Rk.split p26 (decide (48 ≤ Int.ofNat b)) (by kernel_rfl) (fun h4 => ?_) (fun h4 => ?_)
          · refine Rk.adv 4 (by kernel_rfl) ?_
            refine Rk.split p30 (decide (Int.ofNat b ≤ 57)) (by kernel_rfl) (fun h5 => ?_) (fun h5 => ?_)
            · refine Rk.adv 26 (by kernel_rfl) ?_
              -- LOOP
              refine Rk.inc p8 k (by kernel_rfl) (by unfold mx63 at hs; omega) ?_
              refine Rk.kn F154 [.code c154_8] [] [(p0, .str s), (p6, .lst (bytesAV s)), (p7, .int .i64 (Int.ofNat (bytesAV s).length)), (p8, .int .i64 (Int.ofNat (k + 1)))] [] (by kernel_rfl) (by kernel_rfl) (by kernel_rfl) (by kernel_rfl) (by kernel_rfl) (by kernel_rfl) ?_
              intro f1 hk1 _
              exact hi (k + 1) (by omega) f1 hk1
            · refine Rk.adv 4 (by kernel_rfl) ?_
              refine Rk.split p34 (decide (Int.ofNat b = 46)) (by kernel_rfl) (fun h6 => ?_) (fun h6 => ?_)
              · refine Rk.adv 22 (by kernel_rfl) ?_
                -- LOOP
                refine Rk.inc p8 k (by kernel_rfl) (by unfold mx63 at hs; omega) ?_
                refine Rk.kn F154 [.code c154_8] [] [(p0, .str s), (p6, .lst (bytesAV s)), (p7, .int .i64 (Int.ofNat (bytesAV s).length)), (p8, .int .i64 (Int.ofNat (k + 1)))] [] (by kernel_rfl) (by kernel_rfl) (by kernel_rfl) (by kernel_rfl) (by kernel_rfl) (by kernel_rfl) ?_
                intro f1 hk1 _
                exact hi (k + 1) (by omega) f1 hk1
              · refine Rk.adv 4 (by kernel_rfl) ?_
                refine Rk.split p38 (decide (Int.ofNat b = 95)) (by kernel_rfl) (fun h7 => ?_) (fun h7 => ?_)
                · refine Rk.adv 18 (by kernel_rfl) ?_
                  -- LOOP
                  refine Rk.inc p8 k (by kernel_rfl) (by unfold mx63 at hs; omega) ?_
                  refine Rk.kn F154 [.code c154_8] [] [(p0, .str s), (p6, .lst (bytesAV s)), (p7, .int .i64 (Int.ofNat (bytesAV s).length)), (p8, .int .i64 (Int.ofNat (k + 1)))] [] (by kernel_rfl) (by kernel_rfl) (by kernel_rfl) (by kernel_rfl) (by kernel_rfl) (by kernel_rfl) ?_
                  intro f1 hk1 _
                  exact hi (k + 1) (by omega) f1 hk1
                · refine Rk.adv 4 (by kernel_rfl) ?_
                  refine Rk.split p42 (decide (Int.ofNat b = 45)) (by kernel_rfl) (fun h8 => ?_) (fun h8 => ?_)
                  · refine Rk.adv 14 (by kernel_rfl) ?_
                    -- LOOP
                    refine Rk.inc p8 k (by kernel_rfl) (by unfold mx63 at hs; omega) ?_
                    refine Rk.kn F154 [.code c154_8] [] [(p0, .str s), (p6, .lst (bytesAV s)), (p7, .int .i64 (Int.ofNat (bytesAV s).length)), (p8, .int .i64 (Int.ofNat (k + 1)))] [] (by kernel_rfl) (by kernel_rfl) (by kernel_rfl) (by kernel_rfl) (by kernel_rfl) (by kernel_rfl) ?_
                    intro f1 hk1 _
                    exact hi (k + 1) (by omega) f1 hk1
                  · refine Rk.adv 6 (by kernel_rfl) ?_
                    refine Rk.split p20 (decide (Int.ofNat b = 47)) (by kernel_rfl) (fun h9 => ?_) (fun h9 => ?_)
                    · refine Rk.adv 8 (by kernel_rfl) ?_
                      -- LOOP
                      refine Rk.inc p8 k (by kernel_rfl) (by unfold mx63 at hs; omega) ?_
                      refine Rk.kn F154 [.code c154_8] [] [(p0, .str s), (p6, .lst (bytesAV s)), (p7, .int .i64 (Int.ofNat (bytesAV s).length)), (p8, .int .i64 (Int.ofNat (k + 1)))] [] (by kernel_rfl) (by kernel_rfl) (by kernel_rfl) (by kernel_rfl) (by kernel_rfl) (by kernel_rfl) ?_
                      intro f1 hk1 _
                      exact hi (k + 1) (by omega) f1 hk1
                    · refine Rk.adv 10 (by kernel_rfl) ?_
                      -- FIN
                      refine Rk.doneK F154 .ret [] [(p2, .bool false)] [] (by kernel_rfl) (by kernel_rfl) (by kernel_rfl) (by kernel_rfl) (by kernel_rfl) (by kernel_rfl) ?_
                      intro f1 hk1 _
                      exact ⟨rfl, .inr ⟨rfl, hk1⟩⟩
          · refine Rk.adv 8 (by kernel_rfl) ?_
            refine Rk.split p34 (decide (Int.ofNat b = 46)) (by kernel_rfl) (fun h5 => ?_) (fun h5 => ?_)
            · refine Rk.adv 22 (by kernel_rfl) ?_
              -- LOOP
              refine Rk.inc p8 k (by kernel_rfl) (by unfold mx63 at hs; omega) ?_
              refine Rk.kn F154 [.code c154_8] [] [(p0, .str s), (p6, .lst (bytesAV s)), (p7, .int .i64 (Int.ofNat (bytesAV s).length)), (p8, .int .i64 (Int.ofNat (k + 1)))] [] (by kernel_rfl) (by kernel_rfl) (by kernel_rfl) (by kernel_rfl) (by kernel_rfl) (by kernel_rfl) ?_
              intro f1 hk1 _
              exact hi (k + 1) (by omega) f1 hk1
            · refine Rk.adv 4 (by kernel_rfl) ?_
              refine Rk.split p38 (decide (Int.ofNat b = 95)) (by kernel_rfl) (fun h6 => ?_) (fun h6 => ?_)
              · refine Rk.adv 18 (by kernel_rfl) ?_
                -- LOOP
                refine Rk.inc p8 k (by kernel_rfl) (by unfold mx63 at hs; omega) ?_
                refine Rk.kn F154 [.code c154_8] [] [(p0, .str s), (p6, .lst (bytesAV s)), (p7, .int .i64 (Int.ofNat (bytesAV s).length)), (p8, .int .i64 (Int.ofNat (k + 1)))] [] (by kernel_rfl) (by kernel_rfl) (by kernel_rfl) (by kernel_rfl) (by kernel_rfl) (by kernel_rfl) ?_
                intro f1 hk1 _
                exact hi (k + 1) (by omega) f1 hk1
              · refine Rk.adv 4 (by kernel_rfl) ?_
                refine Rk.split p42 (decide (Int.ofNat b = 45)) (by kernel_rfl) (fun h7 => ?_) (fun h7 => ?_)
                · refine Rk.adv 14 (by kernel_rfl) ?_
                  -- LOOP
                  refine Rk.inc p8 k (by kernel_rfl) (by unfold mx63 at hs; omega) ?_
                  refine Rk.kn F154 [.code c154_8] [] [(p0, .str s), (p6, .lst (bytesAV s)), (p7, .int .i64 (Int.ofNat (bytesAV s).length)), (p8, .int .i64 (Int.ofNat (k + 1)))] [] (by kernel_rfl) (by kernel_rfl) (by kernel_rfl) (by kernel_rfl) (by kernel_rfl) (by kernel_rfl) ?_
                  intro f1 hk1 _
                  exact hi (k + 1) (by omega) f1 hk1
                · refine Rk.adv 6 (by kernel_rfl) ?_
                  refine Rk.split p20 (decide (Int.ofNat b = 47)) (by kernel_rfl) (fun h8 => ?_) (fun h8 => ?_)
                  · refine Rk.adv 8 (by kernel_rfl) ?_
                    -- LOOP
                    refine Rk.inc p8 k (by kernel_rfl) (by unfold mx63 at hs; omega) ?_
                    refine Rk.kn F154 [.code c154_8] [] [(p0, .str s), (p6, .lst (bytesAV s)), (p7, .int .i64 (Int.ofNat (bytesAV s).length)), (p8, .int .i64 (Int.ofNat (k + 1)))] [] (by kernel_rfl) (by kernel_rfl) (by kernel_rfl) (by kernel_rfl) (by kernel_rfl) (by kernel_rfl) ?_
                    intro f1 hk1 _
                    exact hi (k + 1) (by omega) f1 hk1
                  · refine Rk.adv 10 (by kernel_rfl) ?_
                    -- FIN
                    refine Rk.doneK F154 .ret [] [(p2, .bool false)] [] (by kernel_rfl) (by kernel_rfl) (by kernel_rfl) (by kernel_rfl) (by kernel_rfl) (by kernel_rfl) ?_
                    intro f1 hk1 _
                    exact ⟨rfl, .inr ⟨rfl, hk1⟩⟩
        · refine Rk.adv 35 (by kernel_rfl) ?_
          -- FIN
          refine Rk.doneK F154 .ret [] [(p2, .bool false)] [] (by kernel_rfl) (by kernel_rfl) (by kernel_rfl) (by kernel_rfl) (by kernel_rfl) (by kernel_rfl) ?_
          intro f1 hk1 _
          exact ⟨rfl, .inr ⟨rfl, hk1⟩⟩
    · refine Rk.adv 11 (by kernel_rfl) ?_
      refine Rk.split p23 (decide (0 < Int.ofNat k)) (by kernel_rfl) (fun h2 => ?_) (fun h2 => ?_)
      · refine Rk.adv 3 (by kernel_rfl) ?_
        refine Rk.split p26 (decide (48 ≤ Int.ofNat b)) (by kernel_rfl) (fun h3 => ?_) (fun h3 => ?_)
        · refine Rk.adv 4 (by kernel_rfl) ?_
          refine Rk.split p30 (decide (Int.ofNat b ≤ 57)) (by kernel_rfl) (fun h4 => ?_) (fun h4 => ?_)
          · refine Rk.adv 26 (by kernel_rfl) ?_
            -- LOOP
            refine Rk.inc p8 k (by kernel_rfl) (by unfold mx63 at hs; omega) ?_
            refine Rk.kn F154 [.code c154_8] [] [(p0, .str s), (p6, .lst (bytesAV s)), (p7, .int .i64 (Int.ofNat (bytesAV s).length)), (p8, .int .i64 (Int.ofNat (k + 1)))] [] (by kernel_rfl) (by kernel_rfl) (by kernel_rfl) (by kernel_rfl) (by kernel_rfl) (by kernel_rfl) ?_
            intro f1 hk1 _
            exact hi (k + 1) (by omega) f1 hk1
          · refine Rk.adv 4 (by kernel_rfl) ?_
            refine Rk.split p34 (decide (Int.ofNat b = 46)) (by kernel_rfl) (fun h5 => ?_) (fun h5 => ?_)
            · refine Rk.adv 22 (by kernel_rfl) ?_
              -- LOOP
              refine Rk.inc p8 k (by kernel_rfl) (by unfold mx63 at hs; omega) ?_
              refine Rk.kn F154 [.code c154_8] [] [(p0, .str s), (p6, .lst (bytesAV s)), (p7, .int .i64 (Int.ofNat (bytesAV s).length)), (p8, .int .i64 (Int.ofNat (k + 1)))] [] (by kernel_rfl) (by kernel_rfl) (by kernel_rfl) (by kernel_rfl) (by kernel_rfl) (by kernel_rfl) ?_
              intro f1 hk1 _
              exact hi (k + 1) (by omega) f1 hk1
            · refine Rk.adv 4 (by kernel_rfl) ?_
              refine Rk.split p38 (decide (Int.ofNat b = 95)) (by kernel_rfl) (fun h6 => ?_) (fun h6 => ?_)
              · refine Rk.adv 18 (by kernel_rfl) ?_
                -- LOOP
                refine Rk.inc p8 k (by kernel_rfl) (by unfold mx63 at hs; omega) ?_
                refine Rk.kn F154 [.code c154_8] [] [(p0, .str s), (p6, .lst (bytesAV s)), (p7, .int .i64 (Int.ofNat (bytesAV s).length)), (p8, .int .i64 (Int.ofNat (k + 1)))] [] (by kernel_rfl) (by kernel_rfl) (by kernel_rfl) (by kernel_rfl) (by kernel_rfl) (by kernel_rfl) ?_
                intro f1 hk1 _
                exact hi (k + 1) (by omega) f1 hk1
              · refine Rk.adv 4 (by kernel_rfl) ?_
                refine Rk.split p42 (decide (Int.ofNat b = 45)) (by kernel_rfl) (fun h7 => ?_) (fun h7 => ?_)
                · refine Rk.adv 14 (by kernel_rfl) ?_
                  -- LOOP
                  refine Rk.inc p8 k (by kernel_rfl) (by unfold mx63 at hs; omega) ?_
                  refine Rk.kn F154 [.code c154_8] [] [(p0, .str s), (p6, .lst (bytesAV s)), (p7, .int .i64 (Int.ofNat (bytesAV s).length)), (p8, .int .i64 (Int.ofNat (k + 1)))] [] (by kernel_rfl) (by kernel_rfl) (by kernel_rfl) (by kernel_rfl) (by kernel_rfl) (by kernel_rfl) ?_
                  intro f1 hk1 _
                  exact hi (k + 1) (by omega) f1 hk1
                · refine Rk.adv 6 (by kernel_rfl) ?_
                  refine Rk.split p20 (decide (Int.ofNat b = 47)) (by kernel_rfl) (fun h8 => ?_) (fun h8 => ?_)
                  · refine Rk.adv 8 (by kernel_rfl) ?_
                    -- LOOP
                    refine Rk.inc p8 k (by kernel_rfl) (by unfold mx63 at hs; omega) ?_
                    refine Rk.kn F154 [.code c154_8] [] [(p0, .str s), (p6, .lst (bytesAV s)), (p7, .int .i64 (Int.ofNat (bytesAV s).length)), (p8, .int .i64 (Int.ofNat (k + 1)))] [] (by kernel_rfl) (by kernel_rfl) (by kernel_rfl) (by kernel_rfl) (by kernel_rfl) (by kernel_rfl) ?_
                    intro f1 hk1 _
                    exact hi (k + 1) (by omega) f1 hk1
                  · refine Rk.adv 10 (by kernel_rfl) ?_
                    -- FIN
                    refine Rk.doneK F154 .ret [] [(p2, .bool false)] [] (by kernel_rfl) (by kernel_rfl) (by kernel_rfl) (by kernel_rfl) (by kernel_rfl) (by kernel_rfl) ?_
                    intro f1 hk1 _
                    exact ⟨rfl, .inr ⟨rfl, hk1⟩⟩
        · refine Rk.adv 8 (by kernel_rfl) ?_
          refine Rk.split p34 (decide (Int.ofNat b = 46)) (by kernel_rfl) (fun h4 => ?_) (fun h4 => ?_)
          · refine Rk.adv 22 (by kernel_rfl) ?_
            -- LOOP
            refine Rk.inc p8 k (by kernel_rfl) (by unfold mx63 at hs; omega) ?_
            refine Rk.kn F154 [.code c154_8] [] [(p0, .str s), (p6, .lst (bytesAV s)), (p7, .int .i64 (Int.ofNat (bytesAV s).length)), (p8, .int .i64 (Int.ofNat (k + 1)))] [] (by kernel_rfl) (by kernel_rfl) (by kernel_rfl) (by kernel_rfl) (by kernel_rfl) (by kernel_rfl) ?_
            intro f1 hk1 _
            exact hi (k + 1) (by omega) f1 hk1
          · refine Rk.adv 4 (by kernel_rfl) ?_
            refine Rk.split p38 (decide (Int.ofNat b = 95)) (by kernel_rfl) (fun h5 => ?_) (fun h5 => ?_)
            · refine Rk.adv 18 (by kernel_rfl) ?_
              -- LOOP
              refine Rk.inc p8 k (by kernel_rfl) (by unfold mx63 at hs; omega) ?_
              refine Rk.kn F154 [.code c154_8] [] [(p0, .str s), (p6, .lst (bytesAV s)), (p7, .int .i64 (Int.ofNat (bytesAV s).length)), (p8, .int .i64 (Int.ofNat (k + 1)))] [] (by kernel_rfl) (by kernel_rfl) (by kernel_rfl) (by kernel_rfl) (by kernel_rfl) (by kernel_rfl) ?_
              intro f1 hk1 _
              exact hi (k + 1) (by omega) f1 hk1
            · refine Rk.adv 4 (by kernel_rfl) ?_
              refine Rk.split p42 (decide (Int.ofNat b = 45)) (by kernel_rfl) (fun h6 => ?_) (fun h6 => ?_)
              · refine Rk.adv 14 (by kernel_rfl) ?_
                -- LOOP
                refine Rk.inc p8 k (by kernel_rfl) (by unfold mx63 at hs; omega) ?_
                refine Rk.kn F154 [.code c154_8] [] [(p0, .str s), (p6, .lst (bytesAV s)), (p7, .int .i64 (Int.ofNat (bytesAV s).length)), (p8, .int .i64 (Int.ofNat (k + 1)))] [] (by kernel_rfl) (by kernel_rfl) (by kernel_rfl) (by kernel_rfl) (by kernel_rfl) (by kernel_rfl) ?_
                intro f1 hk1 _
                exact hi (k + 1) (by omega) f1 hk1
              · refine Rk.adv 6 (by kernel_rfl) ?_
                refine Rk.split p20 (decide (Int.ofNat b = 47)) (by kernel_rfl) (fun h7 => ?_) (fun h7 => ?_)
                · refine Rk.adv 8 (by kernel_rfl) ?_
                  -- LOOP
                  refine Rk.inc p8 k (by kernel_rfl) (by unfold mx63 at hs; omega) ?_
                  refine Rk.kn F154 [.code c154_8] [] [(p0, .str s), (p6, .lst (bytesAV s)), (p7, .int .i64 (Int.ofNat (bytesAV s).length)), (p8, .int .i64 (Int.ofNat (k + 1)))] [] (by kernel_rfl) (by kernel_rfl) (by kernel_rfl) (by kernel_rfl) (by kernel_rfl) (by kernel_rfl) ?_
                  intro f1 hk1 _
                  exact hi (k + 1) (by omega) f1 hk1
                · refine Rk.adv 10 (by kernel_rfl) ?_
                  -- FIN
                  refine Rk.doneK F154 .ret [] [(p2, .bool false)] [] (by kernel_rfl) (by kernel_rfl) (by kernel_rfl) (by kernel_rfl) (by kernel_rfl) (by kernel_rfl) ?_
                  intro f1 hk1 _
                  exact ⟨rfl, .inr ⟨rfl, hk1⟩⟩
      · refine Rk.adv 35 (by kernel_rfl) ?_
        -- FIN
        refine Rk.doneK F154 .ret [] [(p2, .bool false)] [] (by kernel_rfl) (by kernel_rfl) (by kernel_rfl) (by kernel_rfl) (by kernel_rfl) (by kernel_rfl) ?_
        intro f1 hk1 _
        exact ⟨rfl, .inr ⟨rfl, hk1⟩⟩
theorem cl154 {E : Env} (h : Has E 154 F154) (s : List Nat) (hs : s.length ≤ mx63) : ∃ w : Bool, ∀ H, Cl E (.fn 154 []) [.str s] H (.bool w) H := by
  refine Cl.frozenE h _ (g := fun w => .bool w) rfl (fun _ => rfl) (fun _ => rfl) (by kernel_rfl) ?_
  refine Rk.adv 13 (by kernel_rfl) ?_
  -- LOOP
  refine Rk.kn F154 [.code c154_8, .blk 0, .code (.seq c154_9 .ret)] [] [(p0, .str s), (p6, .lst (bytesAV s)), (p7, .int .i64 (Int.ofNat (bytesAV s).length)), (p8, .int .i64 (Int.ofNat 0))] [] (by kernel_rfl) (by kernel_rfl) (by kernel_rfl) (by kernel_rfl) (by kernel_rfl) (by kernel_rfl) ?_
  intro f1 hk1 _
  refine Rk.trans (c := [.code c154_8]) (k := [.blk 0, .code (.seq c154_9 .ret)]) ((w154_in hs _ 0 rfl f1 hk1).weak ?_)
  rintro e f2 _ ⟨rfl, ⟨rfl, hk2⟩ | ⟨rfl, hk2⟩⟩
  · obtain ⟨g2, rfl⟩ := hk2.gen
    refine Rk.adv 7 (by kernel_rfl) ?_
    refine Rk.split p51 (decide (1 ≤ (↑(List.length s) : Int))) (by kernel_rfl) (fun h1 => ?_) (fun h1 => ?_)
    · refine Rk.adv 7 (by kernel_rfl) ?_
      -- FIN
      exact Rk.finB (by kernel_rfl) (by kernel_rfl) (by kernel_rfl)
    · refine Rk.adv 7 (by kernel_rfl) ?_
      -- FIN
      exact Rk.finB (by kernel_rfl) (by kernel_rfl) (by kernel_rfl)
  · obtain ⟨g2, rfl⟩ := hk2.gen
    refine Rk.adv 2 (by kernel_rfl) ?_
    -- FIN
    exact Rk.finB (by kernel_rfl) (by kernel_rfl) (by kernel_rfl)
theorem cl107 {E : Env} (h : Has E 107 F107) (h2 : Has E 154 F154) (k n : Int) (s : List Nat) (hs : s.length ≤ mx63) : ∃ w : Bool, ∀ H, Cl E (.fn 107 []) [.agg [.int .i64 k, .int .i64 n, .str s]] H (.bool w) H := by
  refine Cl.frozenE h _ (g := fun w => .bool w) rfl (fun _ => rfl) (fun _ => rfl) (by kernel_rfl) ?_
  obtain ⟨w1, hw1⟩ := cl154 h2 s hs
  refine Rk.adv 29 (by kernel_rfl) ?_
  refine Rk.split p5 (decide (k = 2)) (by kernel_rfl) (fun h1 => ?_) (fun h1 => ?_)
  · refine Rk.adv 11 (by kernel_rfl) ?_
    refine Rk.split p20 (decide (n < 0)) (by kernel_rfl) (fun h2 => ?_) (fun h2 => ?_)
    · refine Rk.adv 21 (by kernel_rfl) ?_
      -- FIN
      exact Rk.finB (by kernel_rfl) (by kernel_rfl) (by kernel_rfl)
    · refine Rk.adv 5 (by kernel_rfl) ?_
      refine Rk.split p24 (decide (1 < n)) (by kernel_rfl) (fun h3 => ?_) (fun h3 => ?_)
      · refine Rk.adv 16 (by kernel_rfl) ?_
        -- FIN
        exact Rk.finB (by kernel_rfl) (by kernel_rfl) (by kernel_rfl)
      · refine Rk.adv 21 (by kernel_rfl) ?_
        -- FIN
        exact Rk.finB (by kernel_rfl) (by kernel_rfl) (by kernel_rfl)
  · refine Rk.adv 9 (by kernel_rfl) ?_
    refine Rk.split p7 (decide (k = 1)) (by kernel_rfl) (fun h2 => ?_) (fun h2 => ?_)
    · refine Rk.adv 27 (by kernel_rfl) ?_
      -- FIN
      exact Rk.finB (by kernel_rfl) (by kernel_rfl) (by kernel_rfl)
    · refine Rk.adv 5 (by kernel_rfl) ?_
      refine Rk.split p7 (decide (k = 6)) (by kernel_rfl) (fun h3 => ?_) (fun h3 => ?_)
      · refine Rk.adv 25 (by kernel_rfl) ?_
        -- FIN
        exact Rk.finB (by kernel_rfl) (by kernel_rfl) (by kernel_rfl)
      · refine Rk.adv 8 (by kernel_rfl) ?_
        refine Rk.split p10 (decide (k = 5)) (by kernel_rfl) (fun h4 => ?_) (fun h4 => ?_)
        · refine Rk.adv 16 (by kernel_rfl) ?_
          refine Rk.split p31 (decide (s = [])) (by kernel_rfl) (fun h5 => ?_) (fun h5 => ?_)
          · refine Rk.adv 5 (by kernel_rfl) ?_
            refine Rk.split p36 (decide (0 ≤ n)) (by kernel_rfl) (fun h6 => ?_) (fun h6 => ?_)
            · refine Rk.adv 14 (by kernel_rfl) ?_
              -- FIN
              exact Rk.finB (by kernel_rfl) (by kernel_rfl) (by kernel_rfl)
            · refine Rk.adv 14 (by kernel_rfl) ?_
              -- FIN
              exact Rk.finB (by kernel_rfl) (by kernel_rfl) (by kernel_rfl)
          · refine Rk.adv 19 (by kernel_rfl) ?_
            -- FIN
            exact Rk.finB (by kernel_rfl) (by kernel_rfl) (by kernel_rfl)
        · refine Rk.adv 9 (by kernel_rfl) ?_
          refine Rk.split p12 (decide (k = 3)) (by kernel_rfl) (fun h5 => ?_) (fun h5 => ?_)
          · refine Rk.adv 20 (by kernel_rfl) ?_
            refine Rk.split p44 (decide (n = 0)) (by kernel_rfl) (fun h6 => ?_) (fun h6 => ?_)
            · refine Rk.adv 13 (by kernel_rfl) ?_
              -- FIN
              exact Rk.finB (by kernel_rfl) (by kernel_rfl) (by kernel_rfl)
            · refine Rk.adv 13 (by kernel_rfl) ?_
              -- FIN
              exact Rk.finB (by kernel_rfl) (by kernel_rfl) (by kernel_rfl)
          · refine Rk.adv 5 (by kernel_rfl) ?_
            refine Rk.split p12 (decide (k = 4)) (by kernel_rfl) (fun h6 => ?_) (fun h6 => ?_)
            · refine Rk.adv 18 (by kernel_rfl) ?_
              refine Rk.split p44 (decide (n = 0)) (by kernel_rfl) (fun h7 => ?_) (fun h7 => ?_)
              · refine Rk.adv 13 (by kernel_rfl) ?_
                -- FIN
                exact Rk.finB (by kernel_rfl) (by kernel_rfl) (by kernel_rfl)
              · refine Rk.adv 13 (by kernel_rfl) ?_
                -- FIN
                exact Rk.finB (by kernel_rfl) (by kernel_rfl) (by kernel_rfl)
            · refine Rk.adv 7 (by kernel_rfl) ?_
              refine Rk.split p15 (decide (k = 7)) (by kernel_rfl) (fun h7 => ?_) (fun h7 => ?_)
              · refine Rk.adv 19 (by kernel_rfl) ?_
                refine Rk.split p53 (decide (n = 0)) (by kernel_rfl) (fun h8 => ?_) (fun h8 => ?_)
                · refine Rk.adv 2 (by kernel_rfl) ?_
                  refine Rk.call (as := [AV.str s]) (by kernel_rfl) (hw1 _) ?_
                  refine Rk.adv 7 (by kernel_rfl) ?_
                  -- FIN
                  exact Rk.finB (by kernel_rfl) (by kernel_rfl) (by kernel_rfl)
                · refine Rk.adv 10 (by kernel_rfl) ?_
                  -- FIN
                  exact Rk.finB (by kernel_rfl) (by kernel_rfl) (by kernel_rfl)
              · refine Rk.adv 19 (by kernel_rfl) ?_
                -- FIN
                exact Rk.finB (by kernel_rfl) (by kernel_rfl) (by kernel_rfl)
theorem cl97 {E : Env} (h : Has E 97 F97) (h1 : Has E 107 F107) (h2 : Has E 154 F154) (k n : Int) (s : List Nat) (hs : s.length ≤ mx63) : ∃ w : Int, ∀ H, Cl E (.fn 97 []) [.agg [.int .i64 k, .int .i64 n, .str s]] H (.int .i64 w) H := by
  refine Cl.frozenE h _ (g := fun w => .int .i64 w) rfl (fun _ => rfl) (fun _ => rfl) (by kernel_rfl) ?_
  obtain ⟨w1, hw1⟩ := cl107 h1 h2 k n s hs
  refine Rk.adv 9 (by kernel_rfl) ?_
  refine Rk.call (as := [AV.agg [AV.int IntKind.i64 k, AV.int IntKind.i64 n, AV.str s]]) (by kernel_rfl) (hw1 _) ?_
  refine Rk.adv 2 (by kernel_rfl) ?_
  refine Rk.split p5 (!w1) (by kernel_rfl) (fun h1 => ?_) (fun h1 => ?_)
  · refine Rk.adv 7 (by kernel_rfl) ?_
    -- FIN
    exact Rk.finI (by kernel_rfl) (by kernel_rfl) (by kernel_rfl)
  · refine Rk.adv 7 (by kernel_rfl) ?_
    -- FIN
    exact Rk.finI (by kernel_rfl) (by kernel_rfl) (by kernel_rfl)
end Go.EV
