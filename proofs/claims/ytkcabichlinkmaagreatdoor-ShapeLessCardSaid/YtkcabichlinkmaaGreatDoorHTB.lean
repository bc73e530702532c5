/- How great a pattern is. -/
import Derived.Test.YtkcabichlinkmaaGreatDoorHTA
import Derived.Test.YtkcabichlinkmaaGreatDoorHMM
import Derived.Test.YtkcabichlinkmaaGreatDoorHPB
namespace Go.EV
set_option maxRecDepth 100000
set_option maxHeartbeats 4000000 in
theorem l48s {E : Env} (h : Has E 48 F48.pure) (l : List It) (d : Nat) (hd : 60 < d) (hd2 : d < 1000) : ∀ H, Cl E (.fn 48 []) [.lst (It.avs l), .int .i64 (Int.ofNat d)] H (.int .i64 1000) H := by
  intro H
  refine Cl.frozen h _ rfl rfl rfl (by kernel_rfl) ?_
  have h1 : decide (60 < Int.ofNat d) = true := by simp; omega
  refine Rk.adv 14 (by kernel_rfl) ?_
  refine Rk.know p8 (decide (60 < Int.ofNat d)) true (by kernel_rfl) h1 ?_
  refine Rk.adv 7 (by kernel_rfl) ?_
  refine Rk.fin (v' := AV.int IntKind.i64 1000) (by kernel_rfl) (by kernel_rfl) (by kernel_rfl) ?_
  rfl
set_option maxHeartbeats 4000000 in
theorem l48 {E : Env} (h : Has E 48 F48.pure) : ∀ (m : Nat) (l : List It) (d : Nat), SizeOf.sizeOf l < m → l.length ≤ mx63 → It.sms l → d ≤ 60 → ∀ H, Cl E (.fn 48 []) [.lst (It.avs l), .int .i64 (Int.ofNat d)] H (.int .i64 (wgh l d 0)) H := by
  intro m
  induction m with
  | zero => intro l d hm; omega
  | succ m ih =>
    intro l d hm hl hs hd H
    refine Cl.frozen h _ rfl rfl rfl (by kernel_rfl) ?_
    have h1 : decide (60 < Int.ofNat d) = false := by simp; omega
    have hdw : IntKind.i64.wrap (Int.ofNat d + 1) = Int.ofNat (d + 1) := wrap_succ (by omega)
    have hh : ∀ (j i : Nat) (z : Int) (f : Fr), i + j = l.length → wgh (l.drop i) d z = wgh l d 0 → Knows F48 f [(p0, .lst (It.avs l)), (p1, .int .i64 (Int.ofNat d)), (p5, .int .i64 z), (p6, .int .i64 (Int.ofNat i))] → Rk E ⟨[.code c48_8, .blk 0, .code (.seq c48_9 .ret)], .norm, f, []⟩ (Q1 F48.pure (.int .i64 (wgh l d 0))) := by
      intro j
      induction j with
      | zero =>
        intro i z f hi hw hk
        obtain ⟨g, rfl⟩ := hk.gen
        have hlt : decide (Int.ofNat i < Int.ofNat (It.avs l).length) = false := by rw [It.len]; simp; omega
        rw [List.drop_of_length_le (by omega), wgh] at hw
        clear ih
        refine Rk.adv 9 (by kernel_rfl) ?_
        refine Rk.know p13 (decide (Int.ofNat i < (↑(List.length (It.avs l)) : Int))) false (by kernel_rfl) hlt ?_
        refine Rk.adv 15 (by kernel_rfl) ?_
        refine Rk.fin (v' := AV.int IntKind.i64 z) (by kernel_rfl) (by kernel_rfl) (by kernel_rfl) ?_
        rw [hw]
      | succ j ihj =>
        intro i z f hi hw hk
        obtain ⟨g, rfl⟩ := hk.gen
        have hlt : decide (Int.ofNat i < Int.ofNat (It.avs l).length) = true := by rw [It.len]; simp; omega
        obtain ⟨x, hx⟩ : ∃ x, l[i]? = some x := ⟨_, List.getElem?_eq_getElem (by omega)⟩
        obtain ⟨w, a, b, li, hh, dk, dn, ds, nn, sub, r⟩ := x
        have hc := It.at hx
        by_cases hz : z ≤ 200
        · have hz2 : decide (z ≤ 200) = true := decide_eq_true hz
          obtain ⟨hlt3, hget⟩ := List.getElem?_eq_some_iff.1 hx
          rw [List.drop_eq_getElem_cons hlt3, hget, wgh, if_pos hz] at hw
          have hsz := List.sizeOf_lt_of_mem (List.mem_of_getElem? hx)
          simp only [It.mk.sizeOf_spec] at hsz
          have hsx := It.sms_at hs hx
          obtain ⟨q1, q2, q3, q4⟩ := hsx
          have hi63 : mx63 = 9223372036854775807 := rfl
          have hsub : ∀ H, Cl E (.fn 48 []) [.lst (It.avs sub), .int .i64 (Int.ofNat (d + 1))] H (.int .i64 (if 60 < d + 1 then 1000 else wgh sub (d + 1) 0)) H := by
            split
            · exact l48s h sub (d + 1) (by omega) (by omega)
            · exact ih sub (d + 1) (by omega) q3 q4 (by omega)
          generalize (if 60 < d + 1 then (1000 : Int) else wgh sub (d + 1) 0) = ws at hsub hw
          clear ih q1 q2 q3 q4 hsz
          rw [← hdw] at hsub
          refine Rk.adv 9 (by kernel_rfl) ?_
          refine Rk.know p13 (decide (Int.ofNat i < (↑(List.length (It.avs l)) : Int))) true (by kernel_rfl) hlt ?_
          refine Rk.adv 4 (by kernel_rfl) ?_
          refine Rk.know p16 (decide (z ≤ 200)) true (by kernel_rfl) hz2 ?_
          refine Rk.adv 9 (by kernel_rfl) ?_
          refine Rk.iaddr (l := It.avs l) (n := i) (c := [AV.bool w, AV.str a, AV.bool b, AV.int IntKind.i64 li, AV.bool hh, AV.int IntKind.i64 dk, AV.int IntKind.i64 dn,
          AV.str ds, AV.bool nn, AV.lst (It.avs sub), AV.int IntKind.i64 r]) (es := 11) (by kernel_rfl) hc (by kernel_rfl) ?_
          refine Rk.adv 7 (by kernel_rfl) ?_
          refine Rk.iaddr (l := It.avs l) (n := i) (c := [AV.bool w, AV.str a, AV.bool b, AV.int IntKind.i64 li, AV.bool hh, AV.int IntKind.i64 dk, AV.int IntKind.i64 dn,
          AV.str ds, AV.bool nn, AV.lst (It.avs sub), AV.int IntKind.i64 r]) (es := 11) (by kernel_rfl) hc (by kernel_rfl) ?_
          refine Rk.adv 8 (by kernel_rfl) ?_
          refine Rk.iaddr (l := It.avs l) (n := i) (c := [AV.bool w, AV.str a, AV.bool b, AV.int IntKind.i64 li, AV.bool hh, AV.int IntKind.i64 dk, AV.int IntKind.i64 dn,
          AV.str ds, AV.bool nn, AV.lst (It.avs sub), AV.int IntKind.i64 r]) (es := 11) (by kernel_rfl) hc (by kernel_rfl) ?_
          refine Rk.adv 4 (by kernel_rfl) ?_
          refine Rk.call (as := [AV.lst (It.avs sub), AV.int IntKind.i64 (IntKind.wrap IntKind.i64 (Int.ofNat d + 1))]) (by kernel_rfl) (hsub _) ?_
          refine Rk.adv 9 (by kernel_rfl) ?_
          -- LOOP
          refine Rk.inc p6 i (by kernel_rfl) (by omega) ?_
          refine Rk.kn F48 [.code c48_8, .blk 0, .code (.seq c48_9 .ret)] [] [(p0, .lst (It.avs l)), (p1, .int .i64 (Int.ofNat d)), (p5, .int .i64 (IntKind.i64.wrap (IntKind.i64.wrap (IntKind.i64.wrap (IntKind.i64.wrap (z + 1) + IntKind.i64.wrap ((Int.ofNat a.length).tdiv 50)) + IntKind.i64.wrap ((Int.ofNat ds.length).tdiv 50)) + ws))), (p6, .int .i64 (Int.ofNat (i + 1)))] [] (by kernel_rfl) (by kernel_rfl) (by kernel_rfl) (by kernel_rfl) (by kernel_rfl) (by kernel_rfl) ?_
          intro f1 hk1 _
          exact ihj (i + 1) _ f1 (by omega) hw hk1
        · have hz2 : decide (z ≤ 200) = false := decide_eq_false hz
          rw [wgh_over (by omega)] at hw
          clear ih
          refine Rk.adv 9 (by kernel_rfl) ?_
          refine Rk.know p13 (decide (Int.ofNat i < (↑(List.length (It.avs l)) : Int))) true (by kernel_rfl) hlt ?_
          refine Rk.adv 4 (by kernel_rfl) ?_
          refine Rk.know p16 (decide (z ≤ 200)) false (by kernel_rfl) hz2 ?_
          refine Rk.adv 11 (by kernel_rfl) ?_
          refine Rk.fin (v' := AV.int IntKind.i64 z) (by kernel_rfl) (by kernel_rfl) (by kernel_rfl) ?_
          rw [hw]
    clear ih
    refine Rk.adv 14 (by kernel_rfl) ?_
    refine Rk.know p8 (decide (60 < Int.ofNat d)) false (by kernel_rfl) h1 ?_
    refine Rk.adv 8 (by kernel_rfl) ?_
    -- LOOP
    refine Rk.kn F48 [.code c48_8, .blk 0, .code (.seq c48_9 .ret)] [] [(p0, .lst (It.avs l)), (p1, .int .i64 (Int.ofNat d)), (p5, .int .i64 0), (p6, .int .i64 (Int.ofNat 0))] [] (by kernel_rfl) (by kernel_rfl) (by kernel_rfl) (by kernel_rfl) (by kernel_rfl) (by kernel_rfl) ?_
    intro f1 hk1 _
    exact hh l.length 0 0 f1 (by omega) rfl hk1
end Go.EV

/- Is a pattern great? -/
namespace Go.EV
set_option maxRecDepth 100000
theorem l18 {E : Env} (h : Has E 18 F18.pure) (h48 : Has E 48 F48.pure) (l : List It) (hl : l.length ≤ mx63) (hs : It.sms l) : FnC E 18 [.lst (It.avs l)] (.int .i64 (if 200 < wgh l 0 0 then 1 else 0)) := by
  refine FnC.of h rfl (by kernel_rfl) (by kernel_rfl) ?_
  have hw : FnC E 48 [.lst (It.avs l), .int .i64 0] (.int .i64 (wgh l 0 0)) := FnC.old h48 rfl rfl (l48 h48 _ l 0 (Nat.lt_succ_self _) hl hs (by omega))
  refine Pk.adv 7 (by kernel_rfl) ?_
  refine Pk.call0 (g := CX.c (AV.fn 48 [])) (args := [X4, CX.c (I 0)]) (k := 48) (caps := []) (as := [AV.lst (It.avs l), AV.int IntKind.i64 0]) (vs := [AV.lst (It.avs l), AV.int IntKind.i64 0]) (v := AV.int IntKind.i64 (wgh l 0 0)) (by kernel_rfl) (by kernel_rfl) (by kernel_rfl) (by kernel_rfl) (by kernel_rfl) (by kernel_rfl) (by kernel_rfl) (hw) ?_
  refine Pk.adv 8 (by kernel_rfl) ?_
  refine Pk.split p7 (decide (200 < wgh l 0 0)) (by kernel_rfl) (fun h1 => ?_) (fun h1 => ?_)
  · refine Pk.adv 7 (by kernel_rfl) ?_
    refine Pk.fin (v' := AV.int IntKind.i64 1) (by kernel_rfl) (by kernel_rfl) (by kernel_rfl) ?_
    simp_all
  · refine Pk.adv 7 (by kernel_rfl) ?_
    refine Pk.fin (v' := AV.int IntKind.i64 0) (by kernel_rfl) (by kernel_rfl) (by kernel_rfl) ?_
    simp_all
end Go.EV

/- The document's count, fine, May. -/
namespace Go.EV
set_option maxRecDepth 100000
theorem It.av_len (x : It) : x.av.length = 11 := by cases x; rfl
/-- Counted up to an item. -/
theorem It.cnts_take {l : List It} {i : Nat} {x : It} (h : l[i]? = some x) : It.cnts (l.take (i + 1)) = It.cnts (l.take i) + x.cnt + 1 := by
  induction l generalizing i with
  | nil => simp at h
  | cons y r ih =>
    cases i with
    | zero => simp at h; subst h; simp [It.cnts]
    | succ i =>
      have := ih (i := i) (by simpa using h)
      simp only [List.take_succ_cons, It.cnts] at this ⊢
      omega
theorem It.deps_take {l : List It} {i : Nat} {x : It} (h : l[i]? = some x) : It.deps (l.take (i + 1)) = max (It.deps (l.take i)) x.dep := by
  induction l generalizing i with
  | nil => simp at h
  | cons y r ih =>
    cases i with
    | zero => simp at h; subst h; simp [It.deps]; cases y; simp [It.dep]; split <;> omega
    | succ i =>
      have := ih (i := i) (by simpa using h)
      simp only [List.take_succ_cons, It.deps] at this ⊢
      omega
theorem It.cnts_le {l : List It} (i : Nat) : It.cnts (l.take i) + (l.length - i) ≤ It.cnts l := by
  induction l generalizing i with
  | nil => simp [It.cnts]
  | cons y r ih =>
    cases i with
    | zero => have := ih 0; simp [It.cnts] at this ⊢; omega
    | succ i => have := ih i; simp only [List.take_succ_cons, It.cnts, List.length_cons] at this ⊢; omega
theorem It.deps_le {l : List It} (i : Nat) : It.deps (l.take i) ≤ It.deps l := by
  induction l generalizing i with
  | nil => simp
  | cons y r ih =>
    cases i with
    | zero => simp [It.deps]; have := ih 0; simp [It.deps] at this; omega
    | succ i => have := ih i; simp only [List.take_succ_cons, It.deps]; omega
theorem It.deps_pos (l : List It) : 1 ≤ It.deps l := by cases l <;> simp [It.deps]; rename_i r; have : 1 ≤ It.deps r := It.deps_pos r; omega
theorem It.len_cnts (l : List It) : l.length ≤ It.cnts l := by have := It.cnts_le (l := l) 0; omega
theorem max_nat (a b : Nat) : (if Int.ofNat a < Int.ofNat b then Int.ofNat b else Int.ofNat a) = Int.ofNat (max a b) := by split <;> simp_all <;> omega
theorem wrap_add {a b : Nat} (h : a + b < 9223372036854775807) : IntKind.i64.wrap (Int.ofNat a + Int.ofNat b) = Int.ofNat (a + b) := by
  simp only [IntKind.wrap, IntKind.bits, IntKind.signed]
  simp
  omega
set_option maxHeartbeats 4000000 in
theorem l49 {E : Env} (h : Has E 49 F49.pure) : ∀ (m : Nat) (l : List It) (d : Nat), SizeOf.sizeOf l < m → l.length = 1 ∧ It.cnts l ≤ 1001 ∨ It.cnts l ≤ 1000 → d + It.deps l ≤ 100 →
    FnC E 49 [.lst (It.avs l), .int .i64 (Int.ofNat d)] (.tup [.int .i64 (Int.ofNat (It.cnts l)), .int .i64 (Int.ofNat (d + It.deps l - 1))]) := by
  intro m
  induction m with
  | zero => intro l d hm; omega
  | succ m ih =>
    intro l d hm hc hd
    refine FnC.of h rfl (by kernel_rfl) (by kernel_rfl) ?_
    have hlc := It.len_cnts l
    have hd1 : decide (Int.ofNat d < 100) = true := by have := It.deps_pos l; simp; omega
    have hdw : IntKind.i64.wrap (Int.ofNat d + 1) = Int.ofNat (d + 1) := wrap_succ (by omega)
    have hh := Pk.up (E := E) (n0 := 0) (Q := PR F49.pure (.tup [.int .i64 (Int.ofNat (It.cnts l)), .int .i64 (Int.ofNat (d + It.deps l - 1))])) (fun i => ⟨[.code c49_10, .blk 0, .code (.seq c49_11 .ret)], .norm, fr F49 [(p0, .lst (It.avs l)), (p1, .int .i64 (Int.ofNat d)), (p6, .int .i64 (Int.ofNat (It.cnts (l.take i) + (l.length - i)))), (p7, .int .i64 (Int.ofNat (d + It.deps (l.take i) - 1))), (p8, .int .i64 (Int.ofNat i))], []⟩) l.length ?_ ?_
    · clear ih
      have e1 : It.cnts (l.take 0) + (l.length - 0) = (It.avs l).length := by rw [It.len]; simp [It.cnts]
      have e2 : d + It.deps (l.take 0) - 1 = d := by simp [It.deps]
      rw [e1, e2] at hh
      refine Pk.adv 22 (by kernel_rfl) ?_
      -- LOOP
      refine Pk.kn F49 [.code c49_10, .blk 0, .code (.seq c49_11 .ret)] [] [(p0, .lst (It.avs l)), (p1, .int .i64 (Int.ofNat d)), (p6, .int .i64 (Int.ofNat (It.avs l).length)), (p7, .int .i64 (Int.ofNat d)), (p8, .int .i64 (Int.ofNat 0))] (by kernel_rfl) (by kernel_rfl) (by kernel_rfl) (by kernel_rfl) (by kernel_rfl) (by kernel_rfl) ?_
      exact hh
    · intro i hi ihi
      have hlt : decide (Int.ofNat i < Int.ofNat (It.avs l).length) = true := by rw [It.len]; simp; omega
      obtain ⟨x, hx⟩ : ∃ x, l[i]? = some x := ⟨_, List.getElem?_eq_getElem hi⟩
      have t1 := It.cnts_take hx
      have t2 := It.deps_take hx
      have t3 := It.cnts_le (l := l) (i + 1)
      have t4 := It.deps_le (l := l) (i + 1)
      have t5 := It.deps_pos (l.take i)
      have hn : decide (Int.ofNat (It.cnts (l.take i) + (l.length - i)) ≤ 1000) = true := by
        have : It.cnts (l.take i) + (l.length - i) ≤ 1000 := by
          rcases hc with ⟨h1, h2⟩ | h2
          · have : i = 0 := by omega
            subst this
            simp [It.cnts]
            omega
          · have := It.cnts_le (l := l) i
            omega
        simp
        omega
      obtain ⟨w, a, b, li, hb, dk, dn, ds, nn, sub, r⟩ := x
      have hat := It.at hx
      have hsz := List.sizeOf_lt_of_mem (List.mem_of_getElem? hx)
      simp only [It.mk.sizeOf_spec] at hsz
      cases nn with
      | false =>
        have c0 : (It.mk w a b li hb dk dn ds false sub r).cnt = 0 := by simp [It.cnt]
        have d0 : (It.mk w a b li hb dk dn ds false sub r).dep = 1 := by simp [It.dep]
        rw [c0] at t1
        rw [d0] at t2
        have e1 : It.cnts (l.take (i + 1)) + (l.length - (i + 1)) = It.cnts (l.take i) + (l.length - i) := by omega
        have e2 : d + It.deps (l.take (i + 1)) - 1 = d + It.deps (l.take i) - 1 := by omega
        simp only [e1, e2] at ihi
        clear ih t1 t2 t3 t4 t5 hdw
        refine Pk.adv 9 (by kernel_rfl) ?_
        refine Pk.know p18 (decide (Int.ofNat i < (↑(List.length (It.avs l)) : Int))) true (by kernel_rfl) hlt ?_
        refine Pk.adv 4 (by kernel_rfl) ?_
        refine Pk.know p22 (decide (Int.ofNat d < 100)) true (by kernel_rfl) hd1 ?_
        refine Pk.adv 4 (by kernel_rfl) ?_
        refine Pk.know p25 (decide (Int.ofNat (It.cnts (List.take i l) + (List.length l - i)) ≤ 1000)) true (by kernel_rfl) hn ?_
        refine Pk.adv 8 (by kernel_rfl) ?_
        refine Pk.iaddr (es := 11) (x := X28) (i := X29) (l := It.avs l) (q := IntKind.i64) (n := i) (c := [AV.bool w, AV.str a, AV.bool b, AV.int IntKind.i64 li, AV.bool hb, AV.int IntKind.i64 dk, AV.int IntKind.i64 dn,
        AV.str ds, AV.bool false, AV.lst (It.avs sub), AV.int IntKind.i64 r]) (by kernel_rfl) (by kernel_rfl) (by kernel_rfl) (by kernel_rfl) hat (by kernel_rfl) ?_
        refine Pk.adv 11 (by kernel_rfl) ?_
        -- LOOP
        refine Pk.inc p8 i (by kernel_rfl) (by omega) ?_
        refine Pk.kn F49 [.code c49_10, .blk 0, .code (.seq c49_11 .ret)] [] [(p0, .lst (It.avs l)), (p1, .int .i64 (Int.ofNat d)), (p6, .int .i64 (Int.ofNat (It.cnts (l.take i) + (l.length - i)))), (p7, .int .i64 (Int.ofNat (d + It.deps (l.take i) - 1))), (p8, .int .i64 (Int.ofNat (i + 1)))] (by kernel_rfl) (by kernel_rfl) (by kernel_rfl) (by kernel_rfl) (by kernel_rfl) (by kernel_rfl) ?_
        exact ihi
      | true =>
        have c0 : (It.mk w a b li hb dk dn ds true sub r).cnt = It.cnts sub := by simp [It.cnt]
        have d0 : (It.mk w a b li hb dk dn ds true sub r).dep = It.deps sub + 1 := by simp [It.dep]
        rw [c0] at t1
        rw [d0] at t2
        have hcs := ih sub (d + 1) (by omega) (.inr (by omega)) (by omega)
        have e1 : It.cnts (l.take (i + 1)) + (l.length - (i + 1)) = It.cnts (l.take i) + (l.length - i) + It.cnts sub := by omega
        have e2 : d + It.deps (l.take (i + 1)) - 1 = max (d + It.deps (l.take i) - 1) (d + 1 + It.deps sub - 1) := by omega
        simp only [e1, e2] at ihi
        have w1 : IntKind.i64.wrap (Int.ofNat (It.cnts (l.take i) + (l.length - i)) + Int.ofNat (It.cnts sub)) = Int.ofNat (It.cnts (l.take i) + (l.length - i) + It.cnts sub) := wrap_add (by omega)
        have w2 := max_nat (d + It.deps (l.take i) - 1) (d + 1 + It.deps sub - 1)
        clear ih t1 t2 t3 t4 t5
        rw [← hdw] at hcs
        refine Pk.adv 9 (by kernel_rfl) ?_
        refine Pk.know p18 (decide (Int.ofNat i < (↑(List.length (It.avs l)) : Int))) true (by kernel_rfl) hlt ?_
        refine Pk.adv 4 (by kernel_rfl) ?_
        refine Pk.know p22 (decide (Int.ofNat d < 100)) true (by kernel_rfl) hd1 ?_
        refine Pk.adv 4 (by kernel_rfl) ?_
        refine Pk.know p25 (decide (Int.ofNat (It.cnts (List.take i l) + (List.length l - i)) ≤ 1000)) true (by kernel_rfl) hn ?_
        refine Pk.adv 8 (by kernel_rfl) ?_
        refine Pk.iaddr (es := 11) (x := X28) (i := X29) (l := It.avs l) (q := IntKind.i64) (n := i) (c := [AV.bool w, AV.str a, AV.bool b, AV.int IntKind.i64 li, AV.bool hb, AV.int IntKind.i64 dk, AV.int IntKind.i64 dn,
        AV.str ds, AV.bool true, AV.lst (It.avs sub), AV.int IntKind.i64 r]) (by kernel_rfl) (by kernel_rfl) (by kernel_rfl) (by kernel_rfl) hat (by kernel_rfl) ?_
        refine Pk.adv 8 (by kernel_rfl) ?_
        refine Pk.iaddr (es := 11) (x := X34) (i := X35) (l := It.avs l) (q := IntKind.i64) (n := i) (c := [AV.bool w, AV.str a, AV.bool b, AV.int IntKind.i64 li, AV.bool hb, AV.int IntKind.i64 dk, AV.int IntKind.i64 dn,
        AV.str ds, AV.bool true, AV.lst (It.avs sub), AV.int IntKind.i64 r]) (by kernel_rfl) (by kernel_rfl) (by kernel_rfl) (by kernel_rfl) hat (by kernel_rfl) ?_
        refine Pk.adv 4 (by kernel_rfl) ?_
        refine Pk.call0 (g := CX.c (AV.fn 49 [])) (args := [X38, X40]) (k := 49) (caps := []) (as := [AV.lst (It.avs sub), AV.int IntKind.i64 (IntKind.wrap IntKind.i64 (Int.ofNat d + 1))]) (vs := [AV.lst (It.avs sub), AV.int IntKind.i64 (IntKind.wrap IntKind.i64 (Int.ofNat d + 1))]) (v := AV.tup [AV.int IntKind.i64 (Int.ofNat (It.cnts sub)), AV.int IntKind.i64 (Int.ofNat (d + 1 + It.deps sub - 1))]) (by kernel_rfl) (by kernel_rfl) (by kernel_rfl) (by kernel_rfl) (by kernel_rfl) (by kernel_rfl) (by kernel_rfl) (hcs) ?_
        refine Pk.adv 25 (by kernel_rfl) ?_
        -- LOOP
        refine Pk.inc p8 i (by kernel_rfl) (by omega) ?_
        refine Pk.knowI p6 _ _ (by kernel_rfl) w1 ?_
        refine Pk.knowI p7 _ _ (by kernel_rfl) w2 ?_
        refine Pk.kn F49 [.code c49_10, .blk 0, .code (.seq c49_11 .ret)] [] [(p0, .lst (It.avs l)), (p1, .int .i64 (Int.ofNat d)), (p6, .int .i64 (Int.ofNat (It.cnts (l.take i) + (l.length - i) + It.cnts sub))), (p7, .int .i64 (Int.ofNat (max (d + It.deps (l.take i) - 1) (d + 1 + It.deps sub - 1)))), (p8, .int .i64 (Int.ofNat (i + 1)))] (by kernel_rfl) (by kernel_rfl) (by kernel_rfl) (by kernel_rfl) (by kernel_rfl) (by kernel_rfl) ?_
        exact ihi
    · have hlt : decide (Int.ofNat l.length < Int.ofNat (It.avs l).length) = false := by rw [It.len]; simp
      clear ih
      rw [List.take_length, Nat.sub_self, Nat.add_zero]
      refine Pk.adv 9 (by kernel_rfl) ?_
      refine Pk.know p18 (decide (Int.ofNat (List.length l) < (↑(List.length (It.avs l)) : Int))) false (by kernel_rfl) hlt ?_
      refine Pk.adv 21 (by kernel_rfl) ?_
      refine Pk.fin (v' := AV.tup [AV.int IntKind.i64 (Int.ofNat (It.cnts l)), AV.int IntKind.i64 (Int.ofNat (d + It.deps l - 1))]) (by kernel_rfl) (by kernel_rfl) (by kernel_rfl) ?_
      rfl
end Go.EV

/- The document's fine and May. -/
namespace Go.EV
set_option maxRecDepth 100000
theorem fins_all : ∀ {l : List It}, It.fins l = true ↔ ∀ (i : Nat) (x : It), l[i]? = some x → x.fin = true
  | [] => by simp [It.fins]
  | y :: r => by
    rw [It.fins, Bool.and_eq_true, fins_all]
    constructor
    · rintro ⟨h1, h2⟩ i x hx
      cases i with
      | zero => simp at hx; exact hx ▸ h1
      | succ i => exact h2 i x (by simpa using hx)
    · intro h
      exact ⟨h 0 y rfl, fun i x hx => h (i + 1) x (by simpa using hx)⟩
def okI (l : List It) (i : Nat) : Prop := ∀ x, l[i]? = some x → x.one = true ∧ (∀ (k : Nat) (y : It), k < i → l[k]? = some y → x.like y = false) ∧ x.fin = true
open Classical in
theorem fineB_iff {l : List It} : fineB l = true ↔ ∀ i, okI l i := by
  unfold fineB lsOk okI
  simp only [Bool.and_eq_true, decide_eq_true_eq, fins_all]
  constructor
  · rintro ⟨h1, h2⟩ i x hx
    exact ⟨(h1 i x hx).1, (h1 i x hx).2, h2 i x hx⟩
  · intro h
    exact ⟨fun i x hx => ⟨(h i x hx).1, (h i x hx).2.1⟩, fun i x hx => (h i x hx).2.2⟩
theorem fineB_no {l : List It} {i : Nat} {x : It} (hx : l[i]? = some x) (h : x.one = true → (∀ (k : Nat) (y : It), k < i → l[k]? = some y → x.like y = false) → x.fin = true → False) : fineB l = false := by
  cases hf : fineB l with
  | false => rfl
  | true => exact (h (fineB_iff.1 hf i x hx).1 (fineB_iff.1 hf i x hx).2.1 (fineB_iff.1 hf i x hx).2.2).elim
set_option maxHeartbeats 4000000 in
theorem l50 {E : Env} (h : Has E 50 F50.pure) (h84 : Has E 84 F84.pure) (h121 : Has E 121 F121.pure) (h122 : Has E 122 F122.pure) (h159 : Has E 159 F159.pure) (h160 : Has E 160 F160.pure) : ∀ (m : Nat) (l : List It), SizeOf.sizeOf l < m → l.length ≤ mx63 → It.sms l → FnC E 50 [.lst (It.avs l)] (.bool (fineB l)) := by
  intro m
  induction m with
  | zero => intro l hm; omega
  | succ m ih =>
    intro l hm hl hs
    have hi63 : mx63 = 9223372036854775807 := rfl
    refine FnC.of h rfl (by kernel_rfl) (by kernel_rfl) ?_
    have hh := Pk.upG (E := E) (n0 := 0) (Q := PR F50.pure (.bool (fineB l))) (fun i => ⟨[.code c50_15, .blk 0, .code (.seq c50_16 .ret)], .norm, fr F50 [(p0, .lst (It.avs l)), (p3, .int .i64 (Int.ofNat i))], []⟩) (okI l) l.length ?_ ?_
    · clear ih
      refine Pk.adv 10 (by kernel_rfl) ?_
      -- LOOP
      refine Pk.kn F50 [.code c50_15, .blk 0, .code (.seq c50_16 .ret)] [] [(p0, .lst (It.avs l)), (p3, .int .i64 (Int.ofNat 0))] (by kernel_rfl) (by kernel_rfl) (by kernel_rfl) (by kernel_rfl) (by kernel_rfl) (by kernel_rfl) ?_
      exact hh
    · intro i hi ihi
      have hlt : decide (Int.ofNat i < Int.ofNat (It.avs l).length) = true := by rw [It.len]; simp; omega
      obtain ⟨x, hx⟩ : ∃ x, l[i]? = some x := ⟨_, List.getElem?_eq_getElem hi⟩
      obtain ⟨w, a, b, li, hb, dk, dn, ds, nn, sub, r⟩ := x
      have hat := It.at hx
      have hsz := List.sizeOf_lt_of_mem (List.mem_of_getElem? hx)
      simp only [It.mk.sizeOf_spec] at hsz
      obtain ⟨q1, q2, q3, q4⟩ := It.sms_at hs hx
      have e84 := l84 h84 h121 h122 h159 h160 w a b li hb dk dn ds nn sub r
      have hsub := ih sub (by omega) q3 q4
      clear ih
      cases ho : oneB w a b li hb dk dn ds nn sub.length r with
      | false =>
        have ho2 : (!oneB w a b li hb dk dn ds nn sub.length r) = true := by rw [ho]; rfl
        refine Pk.adv 9 (by kernel_rfl) ?_
        refine Pk.know p9 (decide (Int.ofNat i < (↑(List.length (It.avs l)) : Int))) true (by kernel_rfl) hlt ?_
        refine Pk.adv 8 (by kernel_rfl) ?_
        refine Pk.iaddr (es := 11) (x := X12) (i := X13) (l := It.avs l) (q := IntKind.i64) (n := i) (c := [AV.bool w, AV.str a, AV.bool b, AV.int IntKind.i64 li, AV.bool hb, AV.int IntKind.i64 dk, AV.int IntKind.i64 dn,
        AV.str ds, AV.bool nn, AV.lst (It.avs sub), AV.int IntKind.i64 r]) (by kernel_rfl) (by kernel_rfl) (by kernel_rfl) (by kernel_rfl) hat (by kernel_rfl) ?_
        refine Pk.adv 1 (by kernel_rfl) ?_
        refine Pk.call0 (g := CX.c (AV.fn 84 [])) (args := [X15]) (k := 84) (caps := []) (as := [AV.agg
          [AV.bool w, AV.str a, AV.bool b, AV.int IntKind.i64 li, AV.bool hb, AV.int IntKind.i64 dk, AV.int IntKind.i64 dn,
            AV.str ds, AV.bool nn, AV.lst (It.avs sub), AV.int IntKind.i64 r]]) (vs := [AV.agg
          [AV.bool w, AV.str a, AV.bool b, AV.int IntKind.i64 li, AV.bool hb, AV.int IntKind.i64 dk, AV.int IntKind.i64 dn,
            AV.str ds, AV.bool nn, AV.lst (It.avs sub), AV.int IntKind.i64 r]]) (v := AV.bool (oneB w a b li hb dk dn ds nn (List.length sub) r)) (by kernel_rfl) (by kernel_rfl) (by kernel_rfl) (by kernel_rfl) (by kernel_rfl) (by kernel_rfl) (by kernel_rfl) (e84) ?_
        refine Pk.adv 8 (by kernel_rfl) ?_
        refine Pk.know p18 (!oneB w a b li hb dk dn ds nn (List.length sub) r) true (by kernel_rfl) ho2 ?_
        refine Pk.adv 12 (by kernel_rfl) ?_
        refine Pk.fin (v' := AV.bool false) (by kernel_rfl) (by kernel_rfl) (by kernel_rfl) ?_
        rw [fineB_no hx fun e _ _ => by rw [It.one, ho] at e; cases e]
      | true =>
      have ho2 : (!oneB w a b li hb dk dn ds nn sub.length r) = false := by rw [ho]; rfl
      have hin := Pk.upG (E := E) (n0 := 0) (Q := PR F50.pure (.bool (fineB l))) (fun k => ⟨[.code c50_11, .blk 2, .code (.seq c50_12 (.cond X74 (.seq c50_13 .ret) .skip)), .blk 1, .code c50_14, .code c50_15, .blk 0, .code (.seq c50_16 .ret)], .norm, fr F50 [(p0, .lst (It.avs l)), (p3, .int .i64 (Int.ofNat i)), (p5, .int .i64 (Int.ofNat k))], []⟩) (fun k => ∀ y, l[k]? = some y → (It.mk w a b li hb dk dn ds nn sub r).like y = false) i ?_ ?_
      · clear hsub
        refine Pk.adv 9 (by kernel_rfl) ?_
        refine Pk.know p9 (decide (Int.ofNat i < (↑(List.length (It.avs l)) : Int))) true (by kernel_rfl) hlt ?_
        refine Pk.adv 8 (by kernel_rfl) ?_
        refine Pk.iaddr (es := 11) (x := X12) (i := X13) (l := It.avs l) (q := IntKind.i64) (n := i) (c := [AV.bool w, AV.str a, AV.bool b, AV.int IntKind.i64 li, AV.bool hb, AV.int IntKind.i64 dk, AV.int IntKind.i64 dn,
        AV.str ds, AV.bool nn, AV.lst (It.avs sub), AV.int IntKind.i64 r]) (by kernel_rfl) (by kernel_rfl) (by kernel_rfl) (by kernel_rfl) hat (by kernel_rfl) ?_
        refine Pk.adv 1 (by kernel_rfl) ?_
        refine Pk.call0 (g := CX.c (AV.fn 84 [])) (args := [X15]) (k := 84) (caps := []) (as := [AV.agg
          [AV.bool w, AV.str a, AV.bool b, AV.int IntKind.i64 li, AV.bool hb, AV.int IntKind.i64 dk, AV.int IntKind.i64 dn,
            AV.str ds, AV.bool nn, AV.lst (It.avs sub), AV.int IntKind.i64 r]]) (vs := [AV.agg
          [AV.bool w, AV.str a, AV.bool b, AV.int IntKind.i64 li, AV.bool hb, AV.int IntKind.i64 dk, AV.int IntKind.i64 dn,
            AV.str ds, AV.bool nn, AV.lst (It.avs sub), AV.int IntKind.i64 r]]) (v := AV.bool (oneB w a b li hb dk dn ds nn (List.length sub) r)) (by kernel_rfl) (by kernel_rfl) (by kernel_rfl) (by kernel_rfl) (by kernel_rfl) (by kernel_rfl) (by kernel_rfl) (e84) ?_
        refine Pk.adv 8 (by kernel_rfl) ?_
        refine Pk.know p18 (!oneB w a b li hb dk dn ds nn (List.length sub) r) false (by kernel_rfl) ho2 ?_
        refine Pk.adv 8 (by kernel_rfl) ?_
        -- LOOP
        refine Pk.kn F50 [.code c50_11, .blk 2, .code (.seq c50_12 (.cond X74 (.seq c50_13 .ret) .skip)), .blk 1, .code c50_14, .code c50_15, .blk 0, .code (.seq c50_16 .ret)] [] [(p0, .lst (It.avs l)), (p3, .int .i64 (Int.ofNat i)), (p5, .int .i64 (Int.ofNat 0))] (by kernel_rfl) (by kernel_rfl) (by kernel_rfl) (by kernel_rfl) (by kernel_rfl) (by kernel_rfl) ?_
        exact hin
      · intro k hk ihk
        have hlk : decide (Int.ofNat k < Int.ofNat i) = true := by simp; omega
        obtain ⟨y, hy⟩ : ∃ y, l[k]? = some y := ⟨_, List.getElem?_eq_getElem (by omega)⟩
        obtain ⟨w', a', b', li', hb', dk', dn', ds', nn', sub', r'⟩ := y
        have hat' := It.at hy
        clear hsub e84 hlt
        refine Pk.adv 8 (by kernel_rfl) ?_
        refine Pk.know p21 (decide (Int.ofNat k < Int.ofNat i)) true (by kernel_rfl) hlk ?_
        refine Pk.adv 8 (by kernel_rfl) ?_
        refine Pk.iaddr (es := 11) (x := X24) (i := X25) (l := It.avs l) (q := IntKind.i64) (n := i) (c := [AV.bool w, AV.str a, AV.bool b, AV.int IntKind.i64 li, AV.bool hb, AV.int IntKind.i64 dk, AV.int IntKind.i64 dn,
        AV.str ds, AV.bool nn, AV.lst (It.avs sub), AV.int IntKind.i64 r]) (by kernel_rfl) (by kernel_rfl) (by kernel_rfl) (by kernel_rfl) hat (by kernel_rfl) ?_
        refine Pk.adv 4 (by kernel_rfl) ?_
        refine Pk.iaddr (es := 11) (x := X29) (i := X30) (l := It.avs l) (q := IntKind.i64) (n := k) (c := [AV.bool w', AV.str a', AV.bool b', AV.int IntKind.i64 li', AV.bool hb', AV.int IntKind.i64 dk', AV.int IntKind.i64 dn',
        AV.str ds', AV.bool nn', AV.lst (It.avs sub'), AV.int IntKind.i64 r']) (by kernel_rfl) (by kernel_rfl) (by kernel_rfl) (by kernel_rfl) hat' (by kernel_rfl) ?_
        refine Pk.adv 4 (by kernel_rfl) ?_
        refine Pk.split p35 (w == w') (by kernel_rfl) (fun h1 => ?_) (fun h1 => ?_)
        · refine Pk.adv 2 (by kernel_rfl) ?_
          refine Pk.iaddr (es := 11) (x := X36) (i := X37) (l := It.avs l) (q := IntKind.i64) (n := i) (c := [AV.bool w, AV.str a, AV.bool b, AV.int IntKind.i64 li, AV.bool hb, AV.int IntKind.i64 dk, AV.int IntKind.i64 dn,
        AV.str ds, AV.bool nn, AV.lst (It.avs sub), AV.int IntKind.i64 r]) (by kernel_rfl) (by kernel_rfl) (by kernel_rfl) (by kernel_rfl) hat (by kernel_rfl) ?_
          refine Pk.adv 4 (by kernel_rfl) ?_
          refine Pk.iaddr (es := 11) (x := X41) (i := X42) (l := It.avs l) (q := IntKind.i64) (n := k) (c := [AV.bool w', AV.str a', AV.bool b', AV.int IntKind.i64 li', AV.bool hb', AV.int IntKind.i64 dk', AV.int IntKind.i64 dn',
        AV.str ds', AV.bool nn', AV.lst (It.avs sub'), AV.int IntKind.i64 r']) (by kernel_rfl) (by kernel_rfl) (by kernel_rfl) (by kernel_rfl) hat' (by kernel_rfl) ?_
          refine Pk.adv 5 (by kernel_rfl) ?_
          refine Pk.split p48 (decide (a = a')) (by kernel_rfl) (fun h2 => ?_) (fun h2 => ?_)
          · refine Pk.adv 2 (by kernel_rfl) ?_
            refine Pk.iaddr (es := 11) (x := X49) (i := X50) (l := It.avs l) (q := IntKind.i64) (n := i) (c := [AV.bool w, AV.str a, AV.bool b, AV.int IntKind.i64 li, AV.bool hb, AV.int IntKind.i64 dk, AV.int IntKind.i64 dn,
        AV.str ds, AV.bool nn, AV.lst (It.avs sub), AV.int IntKind.i64 r]) (by kernel_rfl) (by kernel_rfl) (by kernel_rfl) (by kernel_rfl) hat (by kernel_rfl) ?_
            refine Pk.adv 4 (by kernel_rfl) ?_
            refine Pk.iaddr (es := 11) (x := X54) (i := X55) (l := It.avs l) (q := IntKind.i64) (n := k) (c := [AV.bool w', AV.str a', AV.bool b', AV.int IntKind.i64 li', AV.bool hb', AV.int IntKind.i64 dk', AV.int IntKind.i64 dn',
        AV.str ds', AV.bool nn', AV.lst (It.avs sub'), AV.int IntKind.i64 r']) (by kernel_rfl) (by kernel_rfl) (by kernel_rfl) (by kernel_rfl) hat' (by kernel_rfl) ?_
            refine Pk.adv 5 (by kernel_rfl) ?_
            refine Pk.split p60 (b == b') (by kernel_rfl) (fun h3 => ?_) (fun h3 => ?_)
            · refine Pk.adv 16 (by kernel_rfl) ?_
              refine Pk.fin (v' := AV.bool false) (by kernel_rfl) (by kernel_rfl) (by kernel_rfl) ?_
              rw [fineB_no hx fun _ e _ => by have e2 := e k _ hk hy; clear ihi ihk hat hat'; simp_all [It.like]]
            · refine Pk.adv 8 (by kernel_rfl) ?_
              -- LOOP
              refine Pk.inc p5 k (by kernel_rfl) (by omega) ?_
              refine Pk.kn F50 [.code c50_11, .blk 2, .code (.seq c50_12 (.cond X74 (.seq c50_13 .ret) .skip)), .blk 1, .code c50_14, .code c50_15, .blk 0, .code (.seq c50_16 .ret)] [] [(p0, .lst (It.avs l)), (p3, .int .i64 (Int.ofNat i)), (p5, .int .i64 (Int.ofNat (k + 1)))] (by kernel_rfl) (by kernel_rfl) (by kernel_rfl) (by kernel_rfl) (by kernel_rfl) (by kernel_rfl) ?_
              exact ihk fun z hz => by rw [hy, Option.some.injEq] at hz; subst hz; clear ihi ihk hat hat'; simp_all [It.like]
          · refine Pk.adv 21 (by kernel_rfl) ?_
            -- LOOP
            refine Pk.inc p5 k (by kernel_rfl) (by omega) ?_
            refine Pk.kn F50 [.code c50_11, .blk 2, .code (.seq c50_12 (.cond X74 (.seq c50_13 .ret) .skip)), .blk 1, .code c50_14, .code c50_15, .blk 0, .code (.seq c50_16 .ret)] [] [(p0, .lst (It.avs l)), (p3, .int .i64 (Int.ofNat i)), (p5, .int .i64 (Int.ofNat (k + 1)))] (by kernel_rfl) (by kernel_rfl) (by kernel_rfl) (by kernel_rfl) (by kernel_rfl) (by kernel_rfl) ?_
            exact ihk fun z hz => by rw [hy, Option.some.injEq] at hz; subst hz; clear ihi ihk hat hat'; simp_all [It.like]
        · refine Pk.adv 34 (by kernel_rfl) ?_
          -- LOOP
          refine Pk.inc p5 k (by kernel_rfl) (by omega) ?_
          refine Pk.kn F50 [.code c50_11, .blk 2, .code (.seq c50_12 (.cond X74 (.seq c50_13 .ret) .skip)), .blk 1, .code c50_14, .code c50_15, .blk 0, .code (.seq c50_16 .ret)] [] [(p0, .lst (It.avs l)), (p3, .int .i64 (Int.ofNat i)), (p5, .int .i64 (Int.ofNat (k + 1)))] (by kernel_rfl) (by kernel_rfl) (by kernel_rfl) (by kernel_rfl) (by kernel_rfl) (by kernel_rfl) ?_
          exact ihk fun z hz => by rw [hy, Option.some.injEq] at hz; subst hz; clear ihi ihk hat hat'; simp_all [It.like]
      · intro hlike
        have hlk : decide (Int.ofNat i < Int.ofNat i) = false := by simp
        have hok : (It.mk w a b li hb dk dn ds nn sub r).fin = true → okI l i := fun hf x' hx' => by
          rw [hx, Option.some.injEq] at hx'
          subst hx'
          exact ⟨by rw [It.one]; exact ho, fun k y hk hy => hlike k hk y hy, hf⟩
        cases nn with
        | false =>
          refine Pk.adv 8 (by kernel_rfl) ?_
          refine Pk.know p21 (decide (Int.ofNat i < Int.ofNat i)) false (by kernel_rfl) hlk ?_
          refine Pk.adv 9 (by kernel_rfl) ?_
          refine Pk.iaddr (es := 11) (x := X61) (i := X62) (l := It.avs l) (q := IntKind.i64) (n := i) (c := [AV.bool w, AV.str a, AV.bool b, AV.int IntKind.i64 li, AV.bool hb, AV.int IntKind.i64 dk, AV.int IntKind.i64 dn,
          AV.str ds, AV.bool false, AV.lst (It.avs sub), AV.int IntKind.i64 r]) (by kernel_rfl) (by kernel_rfl) (by kernel_rfl) (by kernel_rfl) hat (by kernel_rfl) ?_
          refine Pk.adv 20 (by kernel_rfl) ?_
          -- LOOP
          refine Pk.inc p3 i (by kernel_rfl) (by omega) ?_
          refine Pk.kn F50 [.code c50_15, .blk 0, .code (.seq c50_16 .ret)] [] [(p0, .lst (It.avs l)), (p3, .int .i64 (Int.ofNat (i + 1)))] (by kernel_rfl) (by kernel_rfl) (by kernel_rfl) (by kernel_rfl) (by kernel_rfl) (by kernel_rfl) ?_
          exact ihi (hok (by simp [It.fin]))
        | true =>
          have hfi : (It.mk w a b li hb dk dn ds true sub r).fin = fineB sub := by simp [It.fin, fineB]
          rw [hfi] at hok
          cases hfs : fineB sub with
          | false =>
            have hf2 : (!fineB sub) = true := by rw [hfs]; rfl
            refine Pk.adv 8 (by kernel_rfl) ?_
            refine Pk.know p21 (decide (Int.ofNat i < Int.ofNat i)) false (by kernel_rfl) hlk ?_
            refine Pk.adv 9 (by kernel_rfl) ?_
            refine Pk.iaddr (es := 11) (x := X61) (i := X62) (l := It.avs l) (q := IntKind.i64) (n := i) (c := [AV.bool w, AV.str a, AV.bool b, AV.int IntKind.i64 li, AV.bool hb, AV.int IntKind.i64 dk, AV.int IntKind.i64 dn,
            AV.str ds, AV.bool true, AV.lst (It.avs sub), AV.int IntKind.i64 r]) (by kernel_rfl) (by kernel_rfl) (by kernel_rfl) (by kernel_rfl) hat (by kernel_rfl) ?_
            refine Pk.adv 5 (by kernel_rfl) ?_
            refine Pk.iaddr (es := 11) (x := X67) (i := X68) (l := It.avs l) (q := IntKind.i64) (n := i) (c := [AV.bool w, AV.str a, AV.bool b, AV.int IntKind.i64 li, AV.bool hb, AV.int IntKind.i64 dk, AV.int IntKind.i64 dn,
            AV.str ds, AV.bool true, AV.lst (It.avs sub), AV.int IntKind.i64 r]) (by kernel_rfl) (by kernel_rfl) (by kernel_rfl) (by kernel_rfl) hat (by kernel_rfl) ?_
            refine Pk.adv 2 (by kernel_rfl) ?_
            refine Pk.call0 (g := CX.c (AV.fn 50 [])) (args := [X71]) (k := 50) (caps := []) (as := [AV.lst (It.avs sub)]) (vs := [AV.lst (It.avs sub)]) (v := AV.bool (fineB sub)) (by kernel_rfl) (by kernel_rfl) (by kernel_rfl) (by kernel_rfl) (by kernel_rfl) (by kernel_rfl) (by kernel_rfl) (hsub) ?_
            refine Pk.adv 3 (by kernel_rfl) ?_
            refine Pk.know p74 (!fineB sub) true (by kernel_rfl) hf2 ?_
            refine Pk.adv 11 (by kernel_rfl) ?_
            refine Pk.fin (v' := AV.bool false) (by kernel_rfl) (by kernel_rfl) (by kernel_rfl) ?_
            rw [fineB_no hx fun _ _ e => by rw [hfi, hfs] at e; cases e]
          | true =>
            have hf2 : (!fineB sub) = false := by rw [hfs]; rfl
            refine Pk.adv 8 (by kernel_rfl) ?_
            refine Pk.know p21 (decide (Int.ofNat i < Int.ofNat i)) false (by kernel_rfl) hlk ?_
            refine Pk.adv 9 (by kernel_rfl) ?_
            refine Pk.iaddr (es := 11) (x := X61) (i := X62) (l := It.avs l) (q := IntKind.i64) (n := i) (c := [AV.bool w, AV.str a, AV.bool b, AV.int IntKind.i64 li, AV.bool hb, AV.int IntKind.i64 dk, AV.int IntKind.i64 dn,
            AV.str ds, AV.bool true, AV.lst (It.avs sub), AV.int IntKind.i64 r]) (by kernel_rfl) (by kernel_rfl) (by kernel_rfl) (by kernel_rfl) hat (by kernel_rfl) ?_
            refine Pk.adv 5 (by kernel_rfl) ?_
            refine Pk.iaddr (es := 11) (x := X67) (i := X68) (l := It.avs l) (q := IntKind.i64) (n := i) (c := [AV.bool w, AV.str a, AV.bool b, AV.int IntKind.i64 li, AV.bool hb, AV.int IntKind.i64 dk, AV.int IntKind.i64 dn,
            AV.str ds, AV.bool true, AV.lst (It.avs sub), AV.int IntKind.i64 r]) (by kernel_rfl) (by kernel_rfl) (by kernel_rfl) (by kernel_rfl) hat (by kernel_rfl) ?_
            refine Pk.adv 2 (by kernel_rfl) ?_
            refine Pk.call0 (g := CX.c (AV.fn 50 [])) (args := [X71]) (k := 50) (caps := []) (as := [AV.lst (It.avs sub)]) (vs := [AV.lst (It.avs sub)]) (v := AV.bool (fineB sub)) (by kernel_rfl) (by kernel_rfl) (by kernel_rfl) (by kernel_rfl) (by kernel_rfl) (by kernel_rfl) (by kernel_rfl) (hsub) ?_
            refine Pk.adv 3 (by kernel_rfl) ?_
            refine Pk.know p74 (!fineB sub) false (by kernel_rfl) hf2 ?_
            refine Pk.adv 8 (by kernel_rfl) ?_
            -- LOOP
            refine Pk.inc p3 i (by kernel_rfl) (by omega) ?_
            refine Pk.kn F50 [.code c50_15, .blk 0, .code (.seq c50_16 .ret)] [] [(p0, .lst (It.avs l)), (p3, .int .i64 (Int.ofNat (i + 1)))] (by kernel_rfl) (by kernel_rfl) (by kernel_rfl) (by kernel_rfl) (by kernel_rfl) (by kernel_rfl) ?_
            exact ihi (hok hfs)
    · intro hall
      have hlt : decide (Int.ofNat l.length < Int.ofNat (It.avs l).length) = false := by rw [It.len]; simp
      have hf : fineB l = true := fineB_iff.2 fun i => by
        by_cases hi : i < l.length
        · exact hall i hi
        · intro x hx
          rw [List.getElem?_eq_none (by omega)] at hx
          cases hx
      clear ih
      refine Pk.adv 9 (by kernel_rfl) ?_
      refine Pk.know p9 (decide (Int.ofNat (List.length l) < (↑(List.length (It.avs l)) : Int))) false (by kernel_rfl) hlt ?_
      refine Pk.adv 10 (by kernel_rfl) ?_
      refine Pk.fin (v' := AV.bool true) (by kernel_rfl) (by kernel_rfl) (by kernel_rfl) ?_
      rw [hf]
set_option maxHeartbeats 4000000 in
/-- May, of what is not too great. -/
theorem l20 {E : Env} (h : Has E 20 F20.pure) (h49 : Has E 49 F49.pure) (h50 : Has E 50 F50.pure) (h84 : Has E 84 F84.pure) (h121 : Has E 121 F121.pure) (h122 : Has E 122 F122.pure) (h159 : Has E 159 F159.pure) (h160 : Has E 160 F160.pure) (l : List It) (hc : l.length = 1 ∧ It.cnts l ≤ 1001 ∨ It.cnts l ≤ 1000) (hd : 1 + It.deps l ≤ 100) (hl : l.length ≤ mx63) (hs : It.sms l) :
    FnC E 20 [.lst (It.avs l)] (.bool (decide (It.cnts l ≤ 1000) && (decide (It.deps l ≤ 20) && fineB l))) := by
  refine FnC.of h rfl (by kernel_rfl) (by kernel_rfl) ?_
  have e49 : FnC E 49 [.lst (It.avs l), .int .i64 1] (.tup [.int .i64 (Int.ofNat (It.cnts l)), .int .i64 (Int.ofNat (It.deps l))]) := by
    have := l49 h49 _ l 1 (Nat.lt_succ_self _) hc hd
    rwa [Nat.add_sub_cancel_left] at this
  have e50 := l50 h50 h84 h121 h122 h159 h160 _ l (Nat.lt_succ_self _) hl hs
  refine Pk.adv 7 (by kernel_rfl) ?_
  refine Pk.call0 (g := CX.c (AV.fn 49 [])) (args := [X6, CX.c (I 1)]) (k := 49) (caps := []) (as := [AV.lst (It.avs l), AV.int IntKind.i64 1]) (vs := [AV.lst (It.avs l), AV.int IntKind.i64 1]) (v := AV.tup [AV.int IntKind.i64 (Int.ofNat (It.cnts l)), AV.int IntKind.i64 (Int.ofNat (It.deps l))]) (by kernel_rfl) (by kernel_rfl) (by kernel_rfl) (by kernel_rfl) (by kernel_rfl) (by kernel_rfl) (by kernel_rfl) (e49) ?_
  refine Pk.adv 11 (by kernel_rfl) ?_
  refine Pk.split p12 (decide (Int.ofNat (It.cnts l) ≤ 1000)) (by kernel_rfl) (fun h1 => ?_) (fun h1 => ?_)
  · refine Pk.adv 4 (by kernel_rfl) ?_
    refine Pk.split p16 (decide (Int.ofNat (It.deps l) ≤ 20)) (by kernel_rfl) (fun h2 => ?_) (fun h2 => ?_)
    · refine Pk.adv 1 (by kernel_rfl) ?_
      refine Pk.call0 (g := CX.c (AV.fn 50 [])) (args := [X17]) (k := 50) (caps := []) (as := [AV.lst (It.avs l)]) (vs := [AV.lst (It.avs l)]) (v := AV.bool (fineB l)) (by kernel_rfl) (by kernel_rfl) (by kernel_rfl) (by kernel_rfl) (by kernel_rfl) (by kernel_rfl) (by kernel_rfl) (e50) ?_
      refine Pk.adv 4 (by kernel_rfl) ?_
      refine Pk.fin (v' := AV.bool (fineB l)) (by kernel_rfl) (by kernel_rfl) (by kernel_rfl) ?_
      clear e49 e50; simp_all <;> first | omega | grind
    · refine Pk.adv 6 (by kernel_rfl) ?_
      refine Pk.fin (v' := AV.bool false) (by kernel_rfl) (by kernel_rfl) (by kernel_rfl) ?_
      clear e49 e50; simp_all <;> first | omega | grind
  · refine Pk.adv 10 (by kernel_rfl) ?_
    refine Pk.fin (v' := AV.bool false) (by kernel_rfl) (by kernel_rfl) (by kernel_rfl) ?_
    clear e49 e50; simp_all <;> first | omega | grind
end Go.EV
