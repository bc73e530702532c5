/- The machine: functions that work in the caller's heap, symbolically. -/
import Derived.Test.YtkcabichlinkmaaGreatDoorHPB
import Derived.Test.YtkcabichlinkmaaGreatDoorHMM
import Derived.Test.YtkcabichlinkmaaGreatDoorHTA
namespace Go.EV
/-- A call of a function that works in the caller's heap. -/
theorem Cl.openE {E : Env} {k : Nat} {F : CF} {as caps : List AV} {H : Hp} {v : AV} {R : Hp → Prop} (hh : Has E k F) (hm : F.mode = 0) (hs : (setAll F.params (as ++ caps) (Tr.fillN (.tup []) F.depth F.np)).isSome = true)
    (r : Rk E ⟨[.code F.body], .norm, startF F (as ++ caps), H⟩ fun e f H1 => isEx e = false ∧ evRes f H1 F.results = some v ∧ R H1) : ∃ H1, Cl E (.fn k caps) as H v H1 ∧ R H1 := by
  obtain ⟨f, hf⟩ := Option.isSome_iff_exists.1 hs
  obtain ⟨n, e, f', H1, hr, h1, h2, h3⟩ := r
  refine ⟨H1, Cl.mode0 (F := F) (f := f) (hh.pr _ _) hh.fs hm hf ⟨n, e, f', H1, ?_, isEx_spec h1, h2, rfl⟩, h3⟩
  have : startF F (as ++ caps) = f := by unfold startF; rw [hf]; rfl
  rw [← this]
  exact hr
/-- As above, the heap told. -/
theorem Cl.openH {E : Env} {k : Nat} {F : CF} {as caps : List AV} {H H1 : Hp} {v : AV} (hh : Has E k F) (hm : F.mode = 0) (hs : (setAll F.params (as ++ caps) (Tr.fillN (.tup []) F.depth F.np)).isSome = true)
    (r : Rk E ⟨[.code F.body], .norm, startF F (as ++ caps), H⟩ fun e f H2 => isEx e = false ∧ evRes f H2 F.results = some v ∧ H2 = H1) : Cl E (.fn k caps) as H v H1 := by
  obtain ⟨H2, h, rfl⟩ := Cl.openE hh hm hs r
  exact h
/-- A call among the next steps, whose heap is told by what holds of it. -/
theorem Rk.callE {E : Env} {Q : Ex → Fr → Hp → Prop} {s : St} {g : AV} {as : List AV} {v : AV} {H : Hp} {R : Hp → Prop} (h : callOf s = some (g, as)) (hH : s.H = H) (hc : ∃ H1, Cl E g as H v H1 ∧ R H1) (r : ∀ H1, R H1 → Rk E (after E s v H1) Q) : Rk E s Q := by
  obtain ⟨H1, h1, h2⟩ := hc
  exact Rk.callH h hH h1 (r H1 h2)
end Go.EV

/- Is an item like one of those ahead? -/
namespace Go.EV
set_option maxRecDepth 100000
abbrev beqv (w w' b b' : Bool) (a a' : List Nat) : Bool := decide (w = w') && decide (a = a') && decide (b = b')
theorem l77 {E : Env} (h : Has E 77 F77.pure) (w : Bool) (a : List Nat) (b : Bool) (li : Int) (hh : Bool) (dk dn : Int) (ds : List Nat) (n : Bool) (sub : AV) (r : Int) (w' : Bool) (a' : List Nat) (b' : Bool) (li' : Int) (hh' : Bool) (dk' dn' : Int) (ds' : List Nat) (n' : Bool) (L L' : List (List AV)) (r' : Int) :
    FnC E 77 [.agg (itv w a b li hh dk dn ds n (.lst L) r), .agg (itv w' a' b' li' hh' dk' dn' ds' n' (.lst L') r')] (.bool (beqv w w' b b' a a')) := by
  refine FnC.of h rfl (by kernel_rfl) (by kernel_rfl) ?_
  refine Pk.adv 14 (by kernel_rfl) ?_
  refine Pk.split p10 (w == w') (by kernel_rfl) (fun h1 => ?_) (fun h1 => ?_)
  · refine Pk.adv 7 (by kernel_rfl) ?_
    refine Pk.split p17 (decide (a = a')) (by kernel_rfl) (fun h2 => ?_) (fun h2 => ?_)
    · refine Pk.adv 9 (by kernel_rfl) ?_
      refine Pk.fin (v' := AV.bool (b == b')) (by kernel_rfl) (by kernel_rfl) (by kernel_rfl) ?_
      simp_all [beqv] <;> (cases b <;> cases b' <;> rfl)
    · refine Pk.adv 9 (by kernel_rfl) ?_
      refine Pk.fin (v' := AV.bool false) (by kernel_rfl) (by kernel_rfl) (by kernel_rfl) ?_
      simp_all [beqv] <;> (cases b <;> cases b' <;> rfl)
  · refine Pk.adv 16 (by kernel_rfl) ?_
    refine Pk.fin (v' := AV.bool false) (by kernel_rfl) (by kernel_rfl) (by kernel_rfl) ?_
    simp_all [beqv] <;> (cases b <;> cases b' <;> rfl)
theorem cl77 {E : Env} (h : Has E 77 F77.pure) (w : Bool) (a : List Nat) (b : Bool) (li : Int) (hh : Bool) (dk dn : Int) (ds : List Nat) (n : Bool) (r : Int) (w' : Bool) (a' : List Nat) (b' : Bool) (li' : Int) (hh' : Bool) (dk' dn' : Int) (ds' : List Nat) (n' : Bool) (L L' : List (List AV)) (r' : Int) (H : Hp) :
    Cl E (.fn 77 []) [.agg (itv w a b li hh dk dn ds n (.lst L) r), .agg (itv w' a' b' li' hh' dk' dn' ds' n' (.lst L') r')] H (.bool (beqv w w' b b' a a')) H :=
  (l77 h w a b li hh dk dn ds n (.lst L) r w' a' b' li' hh' dk' dn' ds' n' L L' r').cl rfl H
set_option maxHeartbeats 4000000 in
theorem cl76 {E : Env} (h : Has E 76 F76) (h77 : Has E 77 F77.pure) {w : Bool} {a : List Nat} {b : Bool} {li : Int} {hh : Bool} {dk dn : Int} {ds : List Nat} {n : Bool} {r : Int} {w' : Bool} {a' : List Nat} {b' : Bool} {li' : Int} {hh' : Bool} {dk' dn' : Int} {ds' : List Nat} {n' : Bool} {L L' : List (List AV)} {r' : Int} {H : Hp} {xb m : Nat}
    (hx : H[xb]? = some (.cells 1 44 (itv w a b li hh dk dn ds n (.lst L) r))) (hm : H.length = m) :
    Cl E (.fn 76 [.ptr xb 0]) [.agg (itv w' a' b' li' hh' dk' dn' ds' n' (.lst L') r')] H (.bool (beqv w w' b b' a a')) (H ++ [.cells 1 44 (itv w' a' b' li' hh' dk' dn' ds' n' (.lst L') r')]) := by
  refine Cl.openH h rfl rfl ?_
  rw [← List.append_nil H]
  have hc := fun H => cl77 h77 w a b li hh dk dn ds n r w' a' b' li' hh' dk' dn' ds' n' L L' r' H
  refine Rk.adv 2 (by kernel_rfl) ?_
  refine Rk.box hm (H := H) (L := []) (ty := 44) (v := AV.agg
  [AV.bool w', AV.str a', AV.bool b', AV.int IntKind.i64 li', AV.bool hh', AV.int IntKind.i64 dk',
    AV.int IntKind.i64 dn', AV.str ds', AV.bool n', AV.lst L', AV.int IntKind.i64 r']) 0 (by kernel_rfl) (by kernel_rfl) (by kernel_rfl) (by kernel_rfl) ?_
  refine Rk.adv 4 (by kernel_rfl) ?_
  refine Rk.loadE hx (L := [Blk.cells 1 44
    [AV.bool w', AV.str a', AV.bool b', AV.int IntKind.i64 li', AV.bool hh', AV.int IntKind.i64 dk',
      AV.int IntKind.i64 dn', AV.str ds', AV.bool n', AV.lst L', AV.int IntKind.i64 r']]) (n := 11) (ag := true) (o := 0) (v := AV.agg
  [AV.bool w, AV.str a, AV.bool b, AV.int IntKind.i64 li, AV.bool hh, AV.int IntKind.i64 dk, AV.int IntKind.i64 dn,
    AV.str ds, AV.bool n, AV.lst L, AV.int IntKind.i64 r]) (by kernel_rfl) (by kernel_rfl) (by kernel_rfl) ?_
  refine Rk.load hm (H := H) (L := [Blk.cells 1 44
    [AV.bool w', AV.str a', AV.bool b', AV.int IntKind.i64 li', AV.bool hh', AV.int IntKind.i64 dk',
      AV.int IntKind.i64 dn', AV.str ds', AV.bool n', AV.lst L', AV.int IntKind.i64 r']]) (n := 11) (ag := true) (j := 0) (o := 0) (st := 1) (ty := 44) (cs := [AV.bool w', AV.str a', AV.bool b', AV.int IntKind.i64 li', AV.bool hh', AV.int IntKind.i64 dk', AV.int IntKind.i64 dn',
  AV.str ds', AV.bool n', AV.lst L', AV.int IntKind.i64 r']) (v := AV.agg
  [AV.bool w', AV.str a', AV.bool b', AV.int IntKind.i64 li', AV.bool hh', AV.int IntKind.i64 dk',
    AV.int IntKind.i64 dn', AV.str ds', AV.bool n', AV.lst L', AV.int IntKind.i64 r']) (by kernel_rfl) (by kernel_rfl) (by kernel_rfl) (by kernel_rfl) ?_
  refine Rk.callH (H := H ++
  [Blk.cells 1 44
      [AV.bool w', AV.str a', AV.bool b', AV.int IntKind.i64 li', AV.bool hh', AV.int IntKind.i64 dk',
        AV.int IntKind.i64 dn', AV.str ds', AV.bool n', AV.lst L', AV.int IntKind.i64 r']]) (hH := by kernel_rfl) (as := [AV.agg
    [AV.bool w, AV.str a, AV.bool b, AV.int IntKind.i64 li, AV.bool hh, AV.int IntKind.i64 dk, AV.int IntKind.i64 dn,
      AV.str ds, AV.bool n, AV.lst L, AV.int IntKind.i64 r],
  AV.agg
    [AV.bool w', AV.str a', AV.bool b', AV.int IntKind.i64 li', AV.bool hh', AV.int IntKind.i64 dk',
      AV.int IntKind.i64 dn', AV.str ds', AV.bool n', AV.lst L', AV.int IntKind.i64 r']]) (by kernel_rfl) (hc _) ?_
  refine Rk.adv 3 (by kernel_rfl) ?_
  -- FIN
  refine Rk.doneK F76 .ret (H ++
    [Blk.cells 1 44
        [AV.bool w', AV.str a', AV.bool b', AV.int IntKind.i64 li', AV.bool hh', AV.int IntKind.i64 dk',
          AV.int IntKind.i64 dn', AV.str ds', AV.bool n', AV.lst L', AV.int IntKind.i64 r']]) [(p3, .bool (beqv w w' b b' a a'))] [] (by kernel_rfl) (by kernel_rfl) (by kernel_rfl) (by kernel_rfl) (by kernel_rfl) (by kernel_rfl) ?_
  intro f1 hk1 _
  refine ⟨rfl, ?_, ?_⟩
  · simp only [show F76.results = [.t p3] from rfl, evRes, optL, evRes1, hk1.2.1, Option.map_some]
  · simp
set_option maxHeartbeats 4000000 in
theorem cl73 {E : Env} (h : Has E 73 F73) (l : List (List AV)) (z : Int) {H : Hp} {m : Nat} (hm : H.length = m) :
    Cl E (.fn 73 []) [.lst l, .int .i64 z] H (.fn 115 [.ptr (m + 1) 0, .ptr m 0]) (H ++ [.cells 1 22 [.lst l], .cells 1 3 [.int .i64 z]]) := by
  refine Cl.openH h rfl rfl ?_
  rw [← List.append_nil H]
  refine Rk.adv 2 (by kernel_rfl) ?_
  refine Rk.box hm (H := H) (L := []) (ty := 22) (v := AV.lst l) 0 (by kernel_rfl) (by kernel_rfl) (by kernel_rfl) (by kernel_rfl) ?_
  refine Rk.box hm (H := H) (L := [Blk.cells 1 22 [AV.lst l]]) (ty := 3) (v := AV.int IntKind.i64 z) 1 (by kernel_rfl) (by kernel_rfl) (by kernel_rfl) (by kernel_rfl) ?_
  refine Rk.adv 8 (by kernel_rfl) ?_
  -- FIN
  refine Rk.doneK F73 .ret (H ++ [Blk.cells 1 22 [AV.lst l], Blk.cells 1 3 [AV.int IntKind.i64 z]]) [(p4, .fn 115 [.ptr (m + 1) 0, .ptr (m + 0) 0])] [] (by kernel_rfl) (by kernel_rfl) (by kernel_rfl) (by kernel_rfl) (by kernel_rfl) (by kernel_rfl) ?_
  intro f1 hk1 _
  refine ⟨rfl, ?_, ?_⟩
  · simp only [show F73.results = [.t p4] from rfl, evRes, optL, evRes1, hk1.2.1, Option.map_some, Nat.add_zero]
  · simp
/-- The index of the first one alike. -/
def findI (w : Bool) (a : List Nat) (b : Bool) : List It → Nat → Option Nat
  | [], _ => none
  | .mk w' a' b' _ _ _ _ _ _ _ _ :: r, i => if beqv w w' b b' a a' = true then some i else findI w a b r (i + 1)
def idx : Option Nat → Int
  | some i => Int.ofNat i
  | none => -1
set_option maxHeartbeats 4000000 in
theorem cl117 {E : Env} (h : Has E 117 F117.open) (h76 : Has E 76 F76) (h77 : Has E 77 F77.pure) {w : Bool} {a : List Nat} {b : Bool} {li : Int} {hh : Bool} {dk dn : Int} {ds : List Nat} {n : Bool} {r : Int} {L : List (List AV)} {l : List It} (hl : l.length ≤ mx63) {H : Hp} {xb : Nat} (hx : H[xb]? = some (.cells 1 44 (itv w a b li hh dk dn ds n (.lst L) r))) :
    ∃ H1, Cl E (.fn 117 []) [.lst (It.avs l), .fn 76 [.ptr xb 0]] H (.int .i64 (idx (findI w a b l 0))) H1 ∧ ∃ X, H1 = H ++ X := by
  refine Cl.openE h rfl rfl ?_
  have hi63 : mx63 = 9223372036854775807 := rfl
  have hq : ∀ (j i : Nat) (X : Hp) (f : Fr), i + j = l.length → findI w a b (l.drop i) i = findI w a b l 0 → Knows F117 f [(p0, .lst (It.avs l)), (p1, .fn 76 [.ptr xb 0]), (p7, .int .i64 (Int.ofNat (It.avs l).length)), (p8, .int .i64 (Int.ofNat i))] →
      Rk E ⟨[.code c117_7, .blk 0, .code (.seq c117_8 .ret)], .norm, f, H ++ X⟩ fun e f H1 => isEx e = false ∧ evRes f H1 F117.open.results = some (.int .i64 (idx (findI w a b l 0))) ∧ ∃ X, H1 = H ++ X := by
    intro j
    induction j with
    | zero =>
      intro i X f hi hw hk
      obtain ⟨g, rfl⟩ := hk.gen
      have hlt : decide (Int.ofNat i < Int.ofNat (It.avs l).length) = false := by rw [It.len]; simp; omega
      rw [List.drop_of_length_le (by omega), findI] at hw
      refine Rk.adv 6 (by kernel_rfl) ?_
      refine Rk.know p9 (decide (Int.ofNat i < Int.ofNat (List.length (It.avs l)))) false (by kernel_rfl) hlt ?_
      refine Rk.adv 10 (by kernel_rfl) ?_
      -- FIN
      refine Rk.doneK F117 .ret (H ++ X) [(p4, .int .i64 (-1))] [] (by kernel_rfl) (by kernel_rfl) (by kernel_rfl) (by kernel_rfl) (by kernel_rfl) (by kernel_rfl) ?_
      intro f1 hk1 _
      refine ⟨rfl, ?_, ?_⟩
      · simp only [show F117.results = [.t p4] from rfl, evRes, optL, evRes1, hk1.2.1, Option.map_some, ← hw, idx]
      · exact ⟨X, rfl⟩
    | succ j ihj =>
      intro i X f hi hw hk
      obtain ⟨g, rfl⟩ := hk.gen
      have hlt : decide (Int.ofNat i < Int.ofNat (It.avs l).length) = true := by rw [It.len]; simp; omega
      obtain ⟨x, hx2⟩ : ∃ x, l[i]? = some x := ⟨_, List.getElem?_eq_getElem (by omega)⟩
      obtain ⟨w', a', b', li', hh', dk', dn', ds', n', sub', r'⟩ := x
      have hc := It.at hx2
      obtain ⟨hlt3, hget⟩ := List.getElem?_eq_some_iff.1 hx2
      rw [List.drop_eq_getElem_cons hlt3, hget, findI] at hw
      have c76 := cl76 h76 h77 (w' := w') (a' := a') (b' := b') (li' := li') (hh' := hh') (dk' := dk') (dn' := dn') (ds' := ds') (n' := n') (L' := It.avs sub') (r' := r') (at_elder (L := X) hx) rfl
      refine Rk.adv 6 (by kernel_rfl) ?_
      refine Rk.know p9 (decide (Int.ofNat i < Int.ofNat (List.length (It.avs l)))) true (by kernel_rfl) hlt ?_
      refine Rk.adv 14 (by kernel_rfl) ?_
      refine Rk.iaddr (l := It.avs l) (n := i) (c := [AV.bool w', AV.str a', AV.bool b', AV.int IntKind.i64 li', AV.bool hh', AV.int IntKind.i64 dk', AV.int IntKind.i64 dn',
      AV.str ds', AV.bool n', AV.lst (It.avs sub'), AV.int IntKind.i64 r']) (es := 11) (by kernel_rfl) hc (by kernel_rfl) ?_
      refine Rk.adv 1 (by kernel_rfl) ?_
      refine Rk.call (as := [AV.agg
        [AV.bool w', AV.str a', AV.bool b', AV.int IntKind.i64 li', AV.bool hh', AV.int IntKind.i64 dk',
          AV.int IntKind.i64 dn', AV.str ds', AV.bool n', AV.lst (It.avs sub'), AV.int IntKind.i64 r']]) (by kernel_rfl) (c76) ?_
      refine Rk.adv 1 (by kernel_rfl) ?_
      refine Rk.split p16 (beqv w w' b b' a a') (by kernel_rfl) (fun h1 => ?_) (fun h1 => ?_)
      · refine Rk.adv 12 (by kernel_rfl) ?_
        -- FIN
        refine Rk.doneK F117 .ret (H ++ X ++ [Blk.cells 1 44 (itv w' a' b' li' hh' dk' dn' ds' n' (.lst (It.avs sub')) r')]) [(p4, .int .i64 (Int.ofNat i))] [] (by kernel_rfl) (by kernel_rfl) (by kernel_rfl) (by kernel_rfl) (by kernel_rfl) (by kernel_rfl) ?_
        intro f1 hk1 _
        rw [if_pos h1] at hw
        refine ⟨rfl, ?_, X ++ [Blk.cells 1 44 (itv w' a' b' li' hh' dk' dn' ds' n' (.lst (It.avs sub')) r')], by simp⟩
        simp only [show F117.results = [.t p4] from rfl, evRes, optL, evRes1, hk1.2.1, Option.map_some, ← hw, idx]
      · refine Rk.adv 7 (by kernel_rfl) ?_
        -- LOOP
        refine Rk.inc p8 i (by kernel_rfl) (by omega) ?_
        refine Rk.kn F117 [.code c117_7, .blk 0, .code (.seq c117_8 .ret)] (H ++ X ++ [Blk.cells 1 44 (itv w' a' b' li' hh' dk' dn' ds' n' (.lst (It.avs sub')) r')]) [(p0, .lst (It.avs l)), (p1, .fn 76 [.ptr xb 0]), (p7, .int .i64 (Int.ofNat (It.avs l).length)), (p8, .int .i64 (Int.ofNat (i + 1)))] [] (by kernel_rfl) (by kernel_rfl) (by kernel_rfl) (by kernel_rfl) (by kernel_rfl) (by kernel_rfl) ?_
        intro f1 hk1 _
        rw [if_neg (by rw [h1]; exact Bool.false_ne_true)] at hw
        have hg := ihj (i + 1) (X ++ [Blk.cells 1 44 (itv w' a' b' li' hh' dk' dn' ds' n' (.lst (It.avs sub')) r')]) f1 (by omega) hw hk1
        rw [← List.append_assoc] at hg
        exact hg
  refine Rk.adv 12 (by kernel_rfl) ?_
  -- LOOP
  refine Rk.kn F117 [.code c117_7, .blk 0, .code (.seq c117_8 .ret)] H [(p0, .lst (It.avs l)), (p1, .fn 76 [.ptr xb 0]), (p7, .int .i64 (Int.ofNat (It.avs l).length)), (p8, .int .i64 (Int.ofNat 0))] [] (by kernel_rfl) (by kernel_rfl) (by kernel_rfl) (by kernel_rfl) (by kernel_rfl) (by kernel_rfl) ?_
  intro f1 hk1 _
  have hg := hq l.length 0 [] f1 (by omega) rfl hk1
  rw [List.append_nil] at hg
  exact hg
def It.lk (w : Bool) (a : List Nat) (b : Bool) : It → Bool
  | .mk w' a' b' _ _ _ _ _ _ _ _ => beqv w w' b b' a a'
theorem find_some {w : Bool} {a : List Nat} {b : Bool} : ∀ {l : List It} {i : Nat}, decide (0 ≤ idx (findI w a b l i)) = l.any fun y => It.lk w a b y
  | [], i => by simp [findI, idx]
  | .mk w' a' b' _ _ _ _ _ _ _ _ :: r, i => by
    rw [findI, List.any_cons]
    split
    · rename_i e
      simp [e, idx, It.lk]
    · rename_i e
      simp only [Bool.not_eq_true] at e
      simp only [It.lk, e, Bool.false_or]
      exact find_some
theorem cl75 {E : Env} (h75 : Has E 75 F75.open) (h : Has E 117 F117.open) (h76 : Has E 76 F76) (h77 : Has E 77 F77.pure) {w : Bool} {a : List Nat} {b : Bool} {li : Int} {hh : Bool} {dk dn : Int} {ds : List Nat} {n : Bool} {r : Int} {L : List (List AV)} {l : List It} (hl : l.length ≤ mx63) {H : Hp} {xb : Nat} (hx : H[xb]? = some (.cells 1 44 (itv w a b li hh dk dn ds n (.lst L) r))) :
    ∃ H1, Cl E (.fn 75 []) [.lst (It.avs l), .fn 76 [.ptr xb 0]] H (.bool (l.any fun y => It.lk w a b y)) H1 ∧ ∃ X, H1 = H ++ X := by
  refine Cl.openE h75 rfl rfl ?_
  obtain ⟨H1, hc, X, rfl⟩ := cl117 h h76 h77 hl hx
  rw [← find_some (i := 0)]
  refine Rk.adv 8 (by kernel_rfl) ?_
  refine Rk.call (as := [AV.lst (It.avs l), AV.fn 76 [AV.ptr xb 0]]) (by kernel_rfl) (hc) ?_
  refine Rk.adv 4 (by kernel_rfl) ?_
  -- FIN
  refine Rk.doneK F75 .ret (H ++ X) [(p4, .bool (decide (0 ≤ idx (findI w a b l 0))))] [] (by kernel_rfl) (by kernel_rfl) (by kernel_rfl) (by kernel_rfl) (by kernel_rfl) (by kernel_rfl) ?_
  intro f1 hk1 _
  refine ⟨rfl, ?_, X, rfl⟩
  simp only [show F75.results = [.t p4] from rfl, evRes, optL, evRes1, hk1.2.1, Option.map_some]
end Go.EV

/- Lists within lists: a consumer is called with each. -/
namespace Go.EV
set_option maxRecDepth 100000
section
variable {σ : Type}
def subStep (n : Bool) (step : σ → Nat → List It → σ × Bool) : σ → Nat → List It → σ × Bool := fun s d l => if n = true then step s d l else (s, true)
mutual
def It.runX (step : σ → Nat → List It → σ × Bool) : It → Nat → σ → σ × Bool
  | .mk _ _ _ _ _ _ _ _ n sub _, d, s => match subStep n step s (d + 1) sub with
    | (s1, true) => if 20 < d + 1 then (s1, true) else It.runL (subStep n step) sub (d + 1) s1
    | (s1, false) => (s1, false)
def It.runL (step : σ → Nat → List It → σ × Bool) : List It → Nat → σ → σ × Bool
  | [], _, s => (s, true)
  | x :: r, d, s => match It.runX step x d s with
    | (s1, true) => It.runL step r d s1
    | (s1, false) => (s1, false)
end
def runI (step : σ → Nat → List It → σ × Bool) (l : List It) (d : Nat) (s : σ) : σ × Bool := match step s d l with
  | (s1, true) => if 20 < d then (s1, true) else It.runL step l d s1
  | (s1, false) => (s1, false)
theorem It.runX_eq (step : σ → Nat → List It → σ × Bool) (w : Bool) (a : List Nat) (b : Bool) (li : Int) (h : Bool) (dk dn : Int) (ds : List Nat) (n : Bool) (sub : List It) (r : Int) (d : Nat) (s : σ) : It.runX step (.mk w a b li h dk dn ds n sub r) d s = runI (subStep n step) sub (d + 1) s := by
  rw [It.runX]; rfl
end
/-- Grown, and turned within D alone. -/
def Fd (D : Nat → Prop) (G G' : Hp) : Prop := G.length ≤ G'.length ∧ ∀ c, c < G.length → ¬ D c → G'[c]? = G[c]?
theorem Fd.refl {D : Nat → Prop} {G : Hp} : Fd D G G := ⟨Nat.le_refl _, fun _ _ _ => rfl⟩
theorem Fd.trans {D : Nat → Prop} {G G1 G2 : Hp} (h : Fd D G G1) (k : Fd D G1 G2) : Fd D G G2 := ⟨Nat.le_trans h.1 k.1, fun c hc hd => (k.2 c (Nat.lt_of_lt_of_le hc h.1) hd).trans (h.2 c hc hd)⟩
theorem Fd.app {D : Nat → Prop} {G : Hp} (X : Hp) : Fd D G (G ++ X) := ⟨by rw [List.length_append]; omega, fun c hc _ => List.getElem?_append_left hc⟩
theorem Fd.at {D : Nat → Prop} {G G' : Hp} (h : Fd D G G') {c : Nat} {k : Blk} (hc : G[c]? = some k) (hd : ¬ D c) : G'[c]? = some k := (h.2 c (List.getElem?_eq_some_iff.1 hc).1 hd).trans hc
/-- A consumer, its states, and where these stand. -/
structure Con (E : Env) {σ : Type} (y : AV) (step : σ → Nat → List It → σ × Bool) (J : σ → Bool → Hp → Prop) (D : Nat → Prop) : Prop where
  low : ∀ {s : σ} {b : Bool} {G : Hp} {c : Nat}, J s b G → D c → c < G.length
  mono : ∀ {s : σ} {b : Bool} {G G' : Hp}, J s b G → (∀ c, D c → G'[c]? = G[c]?) → J s b G'
  call : ∀ {s : σ} {G : Hp} {d : Nat} {l : List It}, J s true G → d ≤ 100 → l.length ≤ mx63 → It.sms l → ∃ G', Cl E y [.int .i64 (Int.ofNat d), .lst (It.avs l)] G (.bool (step s d l).2) G' ∧ J (step s d l).1 (step s d l).2 G' ∧ Fd D G G'
theorem Con.app {E : Env} {σ : Type} {y : AV} {step : σ → Nat → List It → σ × Bool} {J : σ → Bool → Hp → Prop} {D : Nat → Prop} (h : Con E y step J D) {s : σ} {b : Bool} {G : Hp} (hj : J s b G) (X : Hp) : J s b (G ++ X) :=
  h.mono hj fun c hc => List.getElem?_append_left (h.low hj hc)
theorem Con.setb {E : Env} {σ : Type} {y : AV} {step : σ → Nat → List It → σ × Bool} {J : σ → Bool → Hp → Prop} {D : Nat → Prop} (h : Con E y step J D) {s : σ} {b : Bool} {G : Hp} (hj : J s b G) {c : Nat} (hc : ¬ D c) (k : Blk) : J s b (G.set c k) :=
  h.mono hj fun c' hc' => List.getElem?_set_ne (fun e => hc (by rw [e]; exact hc'))
theorem Fd.weak {D D' : Nat → Prop} {G G' : Hp} (h : Fd D G G') (k : ∀ c, D c → D' c) : Fd D' G G' := ⟨h.1, fun c hc hd => h.2 c hc fun e => hd (k c e)⟩
theorem Fd.setb {D : Nat → Prop} {G : Hp} {c : Nat} (hc : D c) (k : Blk) : Fd D G (G.set c k) := ⟨by rw [List.length_set]; exact Nat.le_refl _, fun c' _ hd => List.getElem?_set_ne fun e => hd (by rw [← e]; exact hc)⟩
/-- The states of the body within. -/
def JIn {σ : Type} (J : σ → Bool → Hp → Prop) (L xb yb : Nat) (x : List AV) (y : AV) (f : Fr) (s : σ) (b : Bool) (H : Hp) : Prop :=
  J s b H ∧ H[xb]? = some (.cells 1 44 x) ∧ H[yb]? = some (.cells 1 187 [y]) ∧ (if b = true then H[L]? = some (.loop 0 .norm f [p28, p29] (.seq c115_6 c115_7) (.blk 3 (.seq c115_8 (.cond X38 .ret .skip)))) else ∃ f' ps a b, H[L]? = some (.loop 2 .ret f' ps a b))
abbrev DIn (D : Nat → Prop) (L xb yb : Nat) (c : Nat) : Prop := D c ∨ c = L ∨ c = xb ∨ c = yb
set_option maxHeartbeats 4000000 in
theorem Con.inner {E : Env} {σ : Type} {y : Nat} {step : σ → Nat → List It → σ × Bool} {J : σ → Bool → Hp → Prop} {D : Nat → Prop} (h : Con E (.yld y) step J D) {L xb yb : Nat} (hL : ¬ D L) (hx : ¬ D xb) (hy : ¬ D yb) (hxL : L ≠ xb) (hyL : L ≠ yb) {w : Bool} {a : List Nat} {b : Bool} {li : Int} {hh : Bool} {dk dn : Int} {ds : List Nat} {n : Bool} {r : Int} {S : List (List AV)} {g : Pth → AV} :
    Con E (.yld L) (subStep n step) (JIn J L xb yb (itv w a b li hh dk dn ds n (.lst S) r) (.yld y) (mkT F115.depth F115.np (ovr [(p3, .ptr yb 0), (p5, .ptr xb 0)] g))) (DIn D L xb yb) where
  low := by
    intro s b G c hj hc
    obtain ⟨j1, j2, j3, j4⟩ := hj
    rcases hc with hc | rfl | rfl | rfl
    · exact h.low j1 hc
    · cases b with
      | true => rw [if_pos rfl] at j4; exact (List.getElem?_eq_some_iff.1 j4).1
      | false => rw [if_neg (by simp)] at j4; obtain ⟨_, _, _, _, j4⟩ := j4; exact (List.getElem?_eq_some_iff.1 j4).1
    · exact (List.getElem?_eq_some_iff.1 j2).1
    · exact (List.getElem?_eq_some_iff.1 j3).1
  mono := by
    intro s b G G' hj hc
    obtain ⟨j1, j2, j3, j4⟩ := hj
    refine ⟨h.mono j1 fun c hd => hc c (.inl hd), (hc _ (.inr (.inr (.inl rfl)))).trans j2, (hc _ (.inr (.inr (.inr rfl)))).trans j3, ?_⟩
    rw [hc L (.inr (.inl rfl))]
    exact j4
  call := by
    intro s G d l hj hd hl hs
    obtain ⟨j1, j2, j3, j4⟩ := hj
    rw [if_pos rfl] at j4
    have hLG := (List.getElem?_eq_some_iff.1 j4).1
    suffices q : ∃ v G', Cl E (.yld L) [.int .i64 (Int.ofNat d), .lst (It.avs l)] G v G' ∧ (v = .bool (subStep n step s d l).2 ∧ JIn J L xb yb (itv w a b li hh dk dn ds n (.lst S) r) (.yld y) (mkT F115.depth F115.np (ovr [(p3, .ptr yb 0), (p5, .ptr xb 0)] g)) (subStep n step s d l).1 (subStep n step s d l).2 G' ∧ Fd (DIn D L xb yb) G G') by
      obtain ⟨v, G', q1, rfl, q2, q3⟩ := q
      exact ⟨G', q1, q2, q3⟩
    refine Cl.yldG (f1 := ((mkT F115.depth F115.np (ovr [(p3, .ptr yb 0), (p5, .ptr xb 0)] g)).set p28 (.int .i64 (Int.ofNat d))).set p29 (.lst (It.avs l))) j4 (by kernel_rfl) ?_
    refine Rk.adv 7 (by kernel_rfl) ?_
    -- FIN
    refine Rk.doneK F115 .norm G [(p3, .ptr yb 0), (p5, .ptr xb 0), (p6, .int .i64 (Int.ofNat d)), (p7, .lst (It.avs l))] [] (by kernel_rfl) (by kernel_rfl) (by kernel_rfl) (by kernel_rfl) (by kernel_rfl) (by kernel_rfl) ?_
    intro f1 hk1 _
    refine ⟨rfl, _, _, _, _, _, j4, ?_⟩
    have k2 : (G.set L (.loop 1 .norm (mkT F115.depth F115.np (ovr [(p3, .ptr yb 0), (p5, .ptr xb 0)] g)) [p28, p29] (.seq c115_6 c115_7) (.blk 3 (.seq c115_8 (.cond X38 .ret .skip)))))[xb]? = some (.cells 1 44 (itv w a b li hh dk dn ds n (.lst S) r)) := by rw [List.getElem?_set_ne hxL]; exact j2
    have k3 : (G.set L (.loop 1 .norm (mkT F115.depth F115.np (ovr [(p3, .ptr yb 0), (p5, .ptr xb 0)] g)) [p28, p29] (.seq c115_6 c115_7) (.blk 3 (.seq c115_8 (.cond X38 .ret .skip)))))[yb]? = some (.cells 1 187 [.yld y]) := by rw [List.getElem?_set_ne hyL]; exact j3
    have k4 : (G.set L (.loop 1 .norm (mkT F115.depth F115.np (ovr [(p3, .ptr yb 0), (p5, .ptr xb 0)] g)) [p28, p29] (.seq c115_6 c115_7) (.blk 3 (.seq c115_8 (.cond X38 .ret .skip)))))[L]? = some (.loop 1 .norm (mkT F115.depth F115.np (ovr [(p3, .ptr yb 0), (p5, .ptr xb 0)] g)) [p28, p29] (.seq c115_6 c115_7) (.blk 3 (.seq c115_8 (.cond X38 .ret .skip)))) := by rw [List.getElem?_set_self hLG]
    have k1 := h.setb j1 hL (.loop 1 .norm (mkT F115.depth F115.np (ovr [(p3, .ptr yb 0), (p5, .ptr xb 0)] g)) [p28, p29] (.seq c115_6 c115_7) (.blk 3 (.seq c115_8 (.cond X38 .ret .skip))))
    have k5 : Fd (DIn D L xb yb) G (G.set L (.loop 1 .norm (mkT F115.depth F115.np (ovr [(p3, .ptr yb 0), (p5, .ptr xb 0)] g)) [p28, p29] (.seq c115_6 c115_7) (.blk 3 (.seq c115_8 (.cond X38 .ret .skip))))) := ⟨by rw [List.length_set]; exact Nat.le_refl _, fun c _ hd => List.getElem?_set_ne fun e => hd (.inr (.inl e.symm))⟩
    generalize (G.set L (.loop 1 .norm (mkT F115.depth F115.np (ovr [(p3, .ptr yb 0), (p5, .ptr xb 0)] g)) [p28, p29] (.seq c115_6 c115_7) (.blk 3 (.seq c115_8 (.cond X38 .ret .skip))))) = G1 at k1 k2 k3 k4 k5 ⊢
    obtain ⟨g1, rfl⟩ := hk1.gen
    have hm : G1.length = G1.length := rfl
    have hLG1 := (List.getElem?_eq_some_iff.1 k4).1
    cases n with
    | false =>
      rw [← List.append_nil G1]
      refine Rk.adv 4 (by kernel_rfl) ?_
      refine Rk.loadE k2 (L := []) (n := 1) (ag := false) (o := 8) (v := AV.bool false) (by kernel_rfl) (by kernel_rfl) (by kernel_rfl) ?_
      refine Rk.adv 11 (by kernel_rfl) ?_
      -- FIN
      refine Rk.doneK F115 .norm (G1 ++ []) [] [] (by kernel_rfl) (by kernel_rfl) (by kernel_rfl) (by kernel_rfl) (by kernel_rfl) (by kernel_rfl) ?_
      intro f2 _ _
      rw [List.append_nil]
      refine ⟨_, _, _, _, _, k4, ?_⟩
      refine ⟨by simp [subStep], ⟨?_, ?_, ?_, ?_⟩, k5.trans (Fd.setb (.inr (.inl rfl)) _)⟩
      · simpa [subStep] using h.setb k1 hL _
      · rw [List.getElem?_set_ne hxL]; exact k2
      · rw [List.getElem?_set_ne hyL]; exact k3
      · simp [subStep, List.getElem?_set_self hLG1]
    | true =>
      obtain ⟨G2, c1, c2, c3⟩ := h.call k1 hd hl hs
      replace c1 : Cl E (.yld y) [.int .i64 (Int.ofNat d), .lst (It.avs l)] (G1 ++ []) (.bool (step s d l).2) G2 := by rw [List.append_nil]; exact c1
      rw [← List.append_nil G1]
      cases hok : (step s d l).2 with
      | false =>
        have h1 : (!(step s d l).2) = true := by rw [hok]; rfl
        refine Rk.adv 4 (by kernel_rfl) ?_
        refine Rk.loadE k2 (L := []) (n := 1) (ag := false) (o := 8) (v := AV.bool true) (by kernel_rfl) (by kernel_rfl) (by kernel_rfl) ?_
        refine Rk.adv 1 (by kernel_rfl) ?_
        refine Rk.loadE k3 (L := []) (n := 1) (ag := false) (o := 0) (v := AV.yld y) (by kernel_rfl) (by kernel_rfl) (by kernel_rfl) ?_
        refine Rk.adv 2 (by kernel_rfl) ?_
        refine Rk.callH (H := G1 ++ []) (hH := by kernel_rfl) (as := [AV.int IntKind.i64 (Int.ofNat d), AV.lst (It.avs l)]) (by kernel_rfl) (c1) ?_
        refine Rk.adv 3 (by kernel_rfl) ?_
        refine Rk.know p38 (!Prod.snd (step s d l)) true (by kernel_rfl) h1 ?_
        refine Rk.adv 3 (by kernel_rfl) ?_
        -- FIN
        refine Rk.doneK F115 .ret G2 [] [] (by kernel_rfl) (by kernel_rfl) (by kernel_rfl) (by kernel_rfl) (by kernel_rfl) (by kernel_rfl) ?_
        intro f2 _ _
        have k4b := c3.at k4 hL
        have hLG2 := (List.getElem?_eq_some_iff.1 k4b).1
        refine ⟨_, _, _, _, _, k4b, ?_⟩
        have e2 : (step s d l).2 = false := by simpa using h1
        refine ⟨by simp [subStep, e2], ⟨?_, ?_, ?_, ?_⟩, k5.trans ((c3.weak fun c hc => .inl hc).trans (Fd.setb (.inr (.inl rfl)) _))⟩
        · simpa [subStep] using h.setb c2 hL _
        · rw [List.getElem?_set_ne hxL]; exact c3.at k2 hx
        · rw [List.getElem?_set_ne hyL]; exact c3.at k3 hy
        · simp [subStep, e2, List.getElem?_set_self hLG2]
      | true =>
        have h1 : (!(step s d l).2) = false := by rw [hok]; rfl
        refine Rk.adv 4 (by kernel_rfl) ?_
        refine Rk.loadE k2 (L := []) (n := 1) (ag := false) (o := 8) (v := AV.bool true) (by kernel_rfl) (by kernel_rfl) (by kernel_rfl) ?_
        refine Rk.adv 1 (by kernel_rfl) ?_
        refine Rk.loadE k3 (L := []) (n := 1) (ag := false) (o := 0) (v := AV.yld y) (by kernel_rfl) (by kernel_rfl) (by kernel_rfl) ?_
        refine Rk.adv 2 (by kernel_rfl) ?_
        refine Rk.callH (H := G1 ++ []) (hH := by kernel_rfl) (as := [AV.int IntKind.i64 (Int.ofNat d), AV.lst (It.avs l)]) (by kernel_rfl) (c1) ?_
        refine Rk.adv 3 (by kernel_rfl) ?_
        refine Rk.know p38 (!Prod.snd (step s d l)) false (by kernel_rfl) h1 ?_
        refine Rk.adv 3 (by kernel_rfl) ?_
        -- FIN
        refine Rk.doneK F115 .norm G2 [] [] (by kernel_rfl) (by kernel_rfl) (by kernel_rfl) (by kernel_rfl) (by kernel_rfl) (by kernel_rfl) ?_
        intro f2 _ _
        have k4b := c3.at k4 hL
        have hLG2 := (List.getElem?_eq_some_iff.1 k4b).1
        refine ⟨_, _, _, _, _, k4b, ?_⟩
        have e2 : (step s d l).2 = true := by simpa using h1
        refine ⟨by simp [subStep, e2], ⟨?_, ?_, ?_, ?_⟩, k5.trans ((c3.weak fun c hc => .inl hc).trans (Fd.setb (.inr (.inl rfl)) _))⟩
        · simpa [subStep] using h.setb c2 hL _
        · rw [List.getElem?_set_ne hxL]; exact c3.at k2 hx
        · rw [List.getElem?_set_ne hyL]; exact c3.at k3 hy
        · simp [subStep, e2, List.getElem?_set_self hLG2]
end Go.EV

/- shape.lists: what it calls. -/
namespace Go.EV
set_option maxRecDepth 100000
abbrev opsOf (c : CC) (n : Nat) : List CO := match c with | .reg l _ => l.drop n | _ => []
theorem runI_ff {σ : Type} {step : σ → Nat → List It → σ × Bool} {l : List It} {d : Nat} {s : σ} (h : (step s d l).2 = false) : runI step l d s = ((step s d l).1, false) := by
  unfold runI
  generalize step s d l = p at h ⊢
  obtain ⟨s1, b⟩ := p
  cases h
  rfl
theorem runI_tt {σ : Type} {step : σ → Nat → List It → σ × Bool} {l : List It} {d : Nat} {s : σ} (h : (step s d l).2 = true) : runI step l d s = if 20 < d then ((step s d l).1, true) else It.runL step l d (step s d l).1 := by
  unfold runI
  generalize step s d l = p at h ⊢
  obtain ⟨s1, b⟩ := p
  cases h
  rfl
theorem runL_cons {σ : Type} {step : σ → Nat → List It → σ × Bool} {x : It} {r : List It} {d : Nat} {s : σ} : It.runL step (x :: r) d s = if (It.runX step x d s).2 = true then It.runL step r d (It.runX step x d s).1 else ((It.runX step x d s).1, false) := by
  rw [It.runL]
  generalize It.runX step x d s = p
  obtain ⟨s1, b⟩ := p
  cases b <;> rfl
def Run115 (E : Env) (n : Nat) : Prop := ∀ (l : List It), SizeOf.sizeOf l < n → ∀ {σ : Type} {step : σ → Nat → List It → σ × Bool} {J : σ → Bool → Hp → Prop} {D : Nat → Prop} {y : Nat}, Con E (.yld y) step J D → ∀ (s : σ) (d : Nat) (G : Hp) (bd bl : Nat), J s true G → d ≤ 21 → l.length ≤ mx63 → It.sms l →
  G[bd]? = some (.cells 1 3 [.int .i64 (Int.ofNat d)]) → G[bl]? = some (.cells 1 22 [.lst (It.avs l)]) → ¬ D bd → ¬ D bl → ∃ G', Cl E (.fn 115 [.ptr bd 0, .ptr bl 0]) [.yld y] G (.tup []) G' ∧ J (runI step l d s).1 (runI step l d s).2 G' ∧ Fd D G G'
abbrev Q115 {σ : Type} (J : σ → Bool → Hp → Prop) (D : Nat → Prop) (G : Hp) (R : σ × Bool) : Ex → Fr → Hp → Prop := fun e f H1 => isEx e = false ∧ evRes f H1 F115.results = some (.tup []) ∧ J R.1 R.2 H1 ∧ Fd D G H1
theorem q115 {f : Fr} {H : Hp} : evRes f H F115.results = some (.tup []) := rfl
set_option maxHeartbeats 4000000 in
theorem lp115 {E : Env} (h73 : Has E 73 F73) {n : Nat} (ih : Run115 E n) {l : List It} (hn : SizeOf.sizeOf l < n + 1) {σ : Type} {step : σ → Nat → List It → σ × Bool} {J : σ → Bool → Hp → Prop} {D : Nat → Prop} {y : Nat} (hc : Con E (.yld y) step J D) {d : Nat} (hd : d ≤ 20) (hl : l.length ≤ mx63) (hs : It.sms l) {G0 : Hp} {bd yb : Nat} (hbd : ¬ D bd) (hyb : ¬ D yb) (hb0 : G0.length ≤ yb) (hby : bd ≠ yb) {R : σ × Bool} :
    ∀ (j i : Nat) (s : σ) (G : Hp) (f : Fr), i + j = l.length → J s true G → It.runL step (l.drop i) d s = R → Fd D G0 G → G[bd]? = some (.cells 1 3 [.int .i64 (Int.ofNat d)]) → G[yb]? = some (.cells 1 187 [.yld y]) →
      Knows F115 f [(p1, .ptr bd 0), (p3, .ptr yb 0), (p17, .lst (It.avs l)), (p18, .int .i64 (Int.ofNat (It.avs l).length)), (p19, .int .i64 (Int.ofNat i))] →
      Rk E ⟨[.code c115_11, .blk 0], .norm, f, G⟩ (Q115 J D G0 R) := by
  have hi63 : mx63 = 9223372036854775807 := rfl
  intro j
  induction j with
  | zero =>
    intro i s G f hi hj hr hf h1 h2 hk
    obtain ⟨g, rfl⟩ := hk.gen
    have hlt : decide (Int.ofNat i < Int.ofNat (It.avs l).length) = false := by rw [It.len]; simp; omega
    rw [List.drop_of_length_le (by omega), It.runL] at hr
    subst hr
    refine Rk.adv 6 (by kernel_rfl) ?_
    refine Rk.know p20 (decide (Int.ofNat i < Int.ofNat (List.length (It.avs l)))) false (by kernel_rfl) hlt ?_
    refine Rk.adv 5 (by kernel_rfl) ?_
    -- FIN
    refine Rk.doneK F115 .norm G [] [] (by kernel_rfl) (by kernel_rfl) (by kernel_rfl) (by kernel_rfl) (by kernel_rfl) (by kernel_rfl) ?_
    intro f1 _ _
    exact ⟨rfl, rfl, hj, hf⟩
  | succ j ihj =>
    intro i s G f hi hj hr hf h1 h2 hk
    obtain ⟨g, rfl⟩ := hk.gen
    have hlt : decide (Int.ofNat i < Int.ofNat (It.avs l).length) = true := by rw [It.len]; simp; omega
    obtain ⟨x, hx⟩ : ∃ x, l[i]? = some x := ⟨_, List.getElem?_eq_getElem (by omega)⟩
    obtain ⟨w, a, b, li, hh, dk, dn, ds, nn, sub, r⟩ := x
    have hat := It.at hx
    obtain ⟨hlt3, hget⟩ := List.getElem?_eq_some_iff.1 hx
    rw [List.drop_eq_getElem_cons hlt3, hget, runL_cons, It.runX_eq] at hr
    have hsz := List.sizeOf_lt_of_mem (List.mem_of_getElem? hx)
    simp only [It.mk.sizeOf_spec] at hsz
    obtain ⟨q1, q2, q3, q4⟩ := It.sms_at hs hx
    have hdw : IntKind.i64.wrap (Int.ofNat d + 1) = Int.ofNat (d + 1) := wrap_succ (by omega)
    have hm : G.length = G.length := rfl
    rw [← List.append_nil G]
    refine Rk.adv 6 (by kernel_rfl) ?_
    refine Rk.know p20 (decide (Int.ofNat i < Int.ofNat (List.length (It.avs l)))) true (by kernel_rfl) hlt ?_
    refine Rk.adv 6 (by kernel_rfl) ?_
    refine Rk.iaddr (l := It.avs l) (n := i) (c := [AV.bool w, AV.str a, AV.bool b, AV.int IntKind.i64 li, AV.bool hh, AV.int IntKind.i64 dk, AV.int IntKind.i64 dn,
    AV.str ds, AV.bool nn, AV.lst (It.avs sub), AV.int IntKind.i64 r]) (es := 11) (by kernel_rfl) hat (by kernel_rfl) ?_
    refine Rk.adv 1 (by kernel_rfl) ?_
    refine Rk.alloc hm (H := G) (L := []) (ty := 44) (z := [AV.bool false, AV.str [], AV.bool false, AV.int IntKind.i64 0, AV.bool false, AV.int IntKind.i64 0,
    AV.int IntKind.i64 0, AV.str [], AV.bool false, AV.nils, AV.int IntKind.i64 0]) 0 (by kernel_rfl) (by kernel_rfl) (by kernel_rfl) ?_
    refine Rk.store hm (H := G) (L := [Blk.cells 1 44
      [AV.bool false, AV.str [], AV.bool false, AV.int IntKind.i64 0, AV.bool false, AV.int IntKind.i64 0,
        AV.int IntKind.i64 0, AV.str [], AV.bool false, AV.nils, AV.int IntKind.i64 0]]) (n := 11) (j := 0) (o := 0) (ty := 44) (cs := [AV.bool false, AV.str [], AV.bool false, AV.int IntKind.i64 0, AV.bool false, AV.int IntKind.i64 0,
    AV.int IntKind.i64 0, AV.str [], AV.bool false, AV.nils, AV.int IntKind.i64 0]) (v := AV.agg
    [AV.bool w, AV.str a, AV.bool b, AV.int IntKind.i64 li, AV.bool hh, AV.int IntKind.i64 dk, AV.int IntKind.i64 dn,
      AV.str ds, AV.bool nn, AV.lst (It.avs sub), AV.int IntKind.i64 r]) (by kernel_rfl) (by kernel_rfl) (by kernel_rfl) (by kernel_rfl) ?_
    refine Rk.adv 4 (by kernel_rfl) ?_
    refine Rk.load hm (H := G) (L := [Blk.cells 1 44
      [AV.bool w, AV.str a, AV.bool b, AV.int IntKind.i64 li, AV.bool hh, AV.int IntKind.i64 dk, AV.int IntKind.i64 dn,
        AV.str ds, AV.bool nn, AV.lst (It.avs sub), AV.int IntKind.i64 r]]) (n := 1) (ag := false) (j := 0) (o := 9) (st := 1) (ty := 44) (cs := [AV.bool w, AV.str a, AV.bool b, AV.int IntKind.i64 li, AV.bool hh, AV.int IntKind.i64 dk, AV.int IntKind.i64 dn,
    AV.str ds, AV.bool nn, AV.lst (It.avs sub), AV.int IntKind.i64 r]) (v := AV.lst (It.avs sub)) (by kernel_rfl) (by kernel_rfl) (by kernel_rfl) (by kernel_rfl) ?_
    refine Rk.loadE h1 (L := [Blk.cells 1 44
      [AV.bool w, AV.str a, AV.bool b, AV.int IntKind.i64 li, AV.bool hh, AV.int IntKind.i64 dk, AV.int IntKind.i64 dn,
        AV.str ds, AV.bool nn, AV.lst (It.avs sub), AV.int IntKind.i64 r]]) (n := 1) (ag := false) (o := 0) (v := AV.int IntKind.i64 (Int.ofNat d)) (by kernel_rfl) (by kernel_rfl) (by kernel_rfl) ?_
    refine Rk.adv 1 (by kernel_rfl) ?_
    refine Rk.callH (H := G ++ [Blk.cells 1 44 [AV.bool w, AV.str a, AV.bool b, AV.int IntKind.i64 li, AV.bool hh, AV.int IntKind.i64 dk, AV.int IntKind.i64 dn, AV.str ds, AV.bool nn, AV.lst (It.avs sub), AV.int IntKind.i64 r]]) (by kernel_rfl) (by kernel_rfl) (cl73 h73 (It.avs sub) (IntKind.i64.wrap (Int.ofNat d + 1)) (m := G.length + 1) (by simp)) ?_
    refine Rk.adv 2 (by kernel_rfl) ?_
    refine Rk.kn F115 [.code c115_9, .blk 2, .blk 1, .code c115_10, .code c115_11, .blk 0] (G ++ [Blk.cells 1 44 [AV.bool w, AV.str a, AV.bool b, AV.int IntKind.i64 li, AV.bool hh, AV.int IntKind.i64 dk, AV.int IntKind.i64 dn, AV.str ds, AV.bool nn, AV.lst (It.avs sub), AV.int IntKind.i64 r]] ++ [.cells 1 22 [.lst (It.avs sub)], .cells 1 3 [.int .i64 (IntKind.i64.wrap (Int.ofNat d + 1))]]) [(p1, .ptr bd 0), (p3, .ptr yb 0), (p5, .ptr (G.length + 0) 0), (p17, .lst (It.avs l)), (p18, .int .i64 (Int.ofNat (It.avs l).length)), (p19, .int .i64 (Int.ofNat i)), (p27, .fn 115 [.ptr (G.length + 1 + 1) 0, .ptr (G.length + 1) 0])] [] (by kernel_rfl) (by kernel_rfl) (by kernel_rfl) (by kernel_rfl) (by kernel_rfl) (by kernel_rfl) ?_
    intro f1 hk1 _
    rw [hdw, List.append_assoc, List.cons_append, List.nil_append]
    have ybG := (List.getElem?_eq_some_iff.1 h2).1
    have bdG := (List.getElem?_eq_some_iff.1 h1).1
    have hg27 : X27.ev f1 = .fn 115 [.ptr (G.length + 1 + 1) 0, .ptr (G.length + 1) 0] := by
      have := hk1.2.2.2.2.2.2.2.1
      simp only [X27, CX.ev, this]
    obtain ⟨g2, e2⟩ := (show Knows F115 f1 [(p3, .ptr yb 0), (p5, .ptr (G.length + 0) 0)] from ⟨hk1.1, hk1.2.2.1, hk1.2.2.2.1, trivial⟩).gen
    generalize hC : G ++ [Blk.cells 1 44 [AV.bool w, AV.str a, AV.bool b, AV.int IntKind.i64 li, AV.bool hh, AV.int IntKind.i64 dk, AV.int IntKind.i64 dn, AV.str ds, AV.bool nn, AV.lst (It.avs sub), AV.int IntKind.i64 r], .cells 1 22 [.lst (It.avs sub)], .cells 1 3 [.int .i64 (Int.ofNat (d + 1))]] = C
    have hCl : C.length = G.length + 3 := by rw [← hC]; simp
    have nl : ∀ {c : Nat}, G.length ≤ c → ¬ D c := fun h e => absurd (hc.low hj e) (by omega)
    have con := hc.inner (L := C.length) (xb := G.length + 0) (yb := yb) (nl (by omega)) (nl (by omega)) hyb (by omega) (by omega) (w := w) (a := a) (b := b) (li := li) (hh := hh) (dk := dk) (dn := dn) (ds := ds) (n := nn) (r := r) (S := It.avs sub) (g := g2)
    rw [← e2] at con
    have at0 : ∀ (j : Nat) (k : Blk), [Blk.cells 1 44 [AV.bool w, AV.str a, AV.bool b, AV.int IntKind.i64 li, AV.bool hh, AV.int IntKind.i64 dk, AV.int IntKind.i64 dn, AV.str ds, AV.bool nn, AV.lst (It.avs sub), AV.int IntKind.i64 r], .cells 1 22 [.lst (It.avs sub)], .cells 1 3 [.int .i64 (Int.ofNat (d + 1))]][j]? = some k → ∀ X, (C ++ X)[G.length + j]? = some k := fun j k e X => by
      refine at_elder ?_
      rw [← hC, at_end]
      exact e
    have elder : ∀ {c : Nat} {k : Blk} (X : Hp), G[c]? = some k → (C ++ X)[c]? = some k := fun X e => at_elder (by rw [← hC]; exact at_elder e)
    have jC : ∀ X, J s true (C ++ X) := fun X => hc.app (by rw [← hC]; exact hc.app hj _) X
    obtain ⟨G', r1, ⟨r2, r4, r5, r6⟩, r3⟩ := ih sub (by omega) con s (d + 1) (C ++ [.loop 0 .norm f1 [p28, p29] (.seq c115_6 c115_7) (.blk 3 (.seq c115_8 (.cond X38 .ret .skip)))]) (G.length + 1 + 1) (G.length + 1) ⟨jC _, at0 0 _ rfl _, elder _ h2, by rw [if_pos rfl]; exact at_end (j := 0)⟩ (by omega) q3 q4 (at0 2 _ rfl _) (at0 1 _ rfl _) (by rintro (e | e | e | e) <;> first | exact nl (by omega) e | omega) (by rintro (e | e | e | e) <;> first | exact nl (by omega) e | omega)
    have hLG : C.length < G'.length := by have := r3.1; rw [List.length_append] at this; simp at this; omega
    have k1 : G'[bd]? = some (.cells 1 3 [.int .i64 (Int.ofNat d)]) := r3.at (elder _ h1) (by rintro (e | e | e | e) <;> first | exact hbd e | exact hby e | omega)
    have k2 : ∀ k : Blk, (G'.set C.length k)[bd]? = some (.cells 1 3 [.int .i64 (Int.ofNat d)]) := fun k => by rw [List.getElem?_set_ne (by omega)]; exact k1
    have k3 : ∀ k : Blk, (G'.set C.length k)[yb]? = some (.cells 1 187 [.yld y]) := fun k => by rw [List.getElem?_set_ne (by omega)]; exact r5
    have k4 : ∀ k : Blk, J (runI (subStep nn step) sub (d + 1) s).1 (runI (subStep nn step) sub (d + 1) s).2 (G'.set C.length k) := fun k => hc.setb r2 (nl (by omega)) k
    have k5 : ∀ k : Blk, Fd D G0 (G'.set C.length k) := fun k => by
      have := hf.1
      refine ⟨by rw [List.length_set]; omega, fun c hcl hcd => ?_⟩
      rw [List.getElem?_set_ne (by omega), r3.2 c (by rw [List.length_append]; omega) (by rintro (e | e | e | e) <;> first | exact hcd e | omega), List.getElem?_append_left (by omega), ← hC, List.getElem?_append_left (by omega)]
      exact hf.2 c hcl hcd
    cases hok : (runI (subStep nn step) sub (d + 1) s).2 with
    | true =>
      rw [hok] at r6 k4 hr
      rw [if_pos rfl] at r6 hr
      refine Rk.rngG hg27 r1 r6 (.inl ⟨rfl, rfl⟩) ?_
      have k5' := k5 .dead
      have k4' := k4 .dead
      have k3' := k3 .dead
      have k2' := k2 .dead
      generalize G'.set C.length .dead = G2 at k2' k3' k4' k5' ⊢
      clear con e2 r6 r1 hg27 k2 k3 k4 k5
      obtain ⟨g, rfl⟩ := hk1.gen
      refine Rk.adv 6 (by kernel_rfl) ?_
      refine Rk.inc p19 i (by kernel_rfl) (by omega) ?_
      refine Rk.kn F115 [.code c115_11, .blk 0] G2 [(p1, .ptr bd 0), (p3, .ptr yb 0), (p17, .lst (It.avs l)), (p18, .int .i64 (Int.ofNat (It.avs l).length)), (p19, .int .i64 (Int.ofNat (i + 1)))] [] (by kernel_rfl) (by kernel_rfl) (by kernel_rfl) (by kernel_rfl) (by kernel_rfl) (by kernel_rfl) ?_
      intro f1 hk1 _
      exact ihj (i + 1) _ G2 f1 (by omega) k4' hr k5' k2' k3' hk1
    | false =>
      rw [hok] at r6 k4 hr
      rw [if_neg (by simp)] at r6 hr
      obtain ⟨f', ps, a', b', r6⟩ := r6
      refine Rk.rngG hg27 r1 r6 (.inr rfl) ?_
      subst hr
      have k5' := k5 .dead
      have k4' := k4 .dead
      generalize G'.set C.length .dead = G2 at k4' k5' ⊢
      clear con e2 r6 r1 hg27 k2 k3 k4 k5
      obtain ⟨g, rfl⟩ := hk1.gen
      refine Rk.adv 5 (by kernel_rfl) ?_
      refine Rk.doneK F115 .ret G2 [] [] (by kernel_rfl) (by kernel_rfl) (by kernel_rfl) (by kernel_rfl) (by kernel_rfl) (by kernel_rfl) ?_
      intro f1 _ _
      exact ⟨rfl, rfl, k4', k5'⟩
end Go.EV

/- shape.lists: what it calls, whatever the list. -/
namespace Go.EV
set_option maxRecDepth 100000
set_option maxHeartbeats 4000000 in
theorem run115 {E : Env} (h115 : Has E 115 F115) (h73 : Has E 73 F73) : ∀ n, Run115 E n := by
  intro n
  induction n with
  | zero => intro l hm; omega
  | succ n ih =>
    intro l hn σ step J D y hc s d G bd bl hj hd hl hs h1 h2 hbd hbl
    refine Cl.openE h115 rfl rfl ?_
    have bdG := (List.getElem?_eq_some_iff.1 h1).1
    have nl : ∀ {c : Nat}, G.length ≤ c → ¬ D c := fun h e => absurd (hc.low hj e) (by omega)
    obtain ⟨G2, c1, c2, c3⟩ := hc.call (G := G ++ [.cells 1 187 [.yld y]]) (hc.app hj _) (show d ≤ 100 by omega) hl hs
    have k1 := c3.at (at_elder h1) hbd
    have k2 := c3.at (at_elder h2) hbl
    have k3 : G2[G.length + 0]? = some (.cells 1 187 [.yld y]) := c3.at at_end (nl (by omega))
    have k4 : Fd D G G2 := (Fd.app _).trans c3
    have hm : G.length = G.length := rfl
    have hm2 : G2.length = G2.length := rfl
    replace c1 : Cl E (.yld y) [.int .i64 (Int.ofNat d), .lst (It.avs l)] (G ++ [.cells 1 187 [.yld y]]) (.bool (step s d l).2) (G2 ++ []) := by rw [List.append_nil]; exact c1
    rw [← List.append_nil G]
    cases hok : (step s d l).2 with
    | false =>
      have e1 : (!(step s d l).2) = true := by rw [hok]; rfl
      rw [runI_ff hok]
      rw [hok] at c2
      refine Rk.adv 2 (by kernel_rfl) ?_
      refine Rk.box hm (H := G) (L := []) (ty := 187) (v := AV.yld y) 0 (by kernel_rfl) (by kernel_rfl) (by kernel_rfl) (by kernel_rfl) ?_
      refine Rk.adv 4 (by kernel_rfl) ?_
      refine Rk.load hm (H := G) (L := [Blk.cells 1 187 [AV.yld y]]) (n := 1) (ag := false) (j := 0) (o := 0) (st := 1) (ty := 187) (cs := [AV.yld y]) (v := AV.yld y) (by kernel_rfl) (by kernel_rfl) (by kernel_rfl) (by kernel_rfl) ?_
      refine Rk.loadE h1 (L := [Blk.cells 1 187 [AV.yld y]]) (n := 1) (ag := false) (o := 0) (v := AV.int IntKind.i64 (Int.ofNat d)) (by kernel_rfl) (by kernel_rfl) (by kernel_rfl) ?_
      refine Rk.loadE h2 (L := [Blk.cells 1 187 [AV.yld y]]) (n := 1) (ag := false) (o := 0) (v := AV.lst (It.avs l)) (by kernel_rfl) (by kernel_rfl) (by kernel_rfl) ?_
      refine Rk.callH (H := G ++ [Blk.cells 1 187 [AV.yld y]]) (hH := by kernel_rfl) (as := [AV.int IntKind.i64 (Int.ofNat d), AV.lst (It.avs l)]) (by kernel_rfl) (c1) ?_
      refine Rk.adv 2 (by kernel_rfl) ?_
      refine Rk.know p13 (!Prod.snd (step s d l)) true (by kernel_rfl) e1 ?_
      refine Rk.adv 7 (by kernel_rfl) ?_
      -- FIN
      refine Rk.doneK F115 .ret (G2 ++ []) [] [] (by kernel_rfl) (by kernel_rfl) (by kernel_rfl) (by kernel_rfl) (by kernel_rfl) (by kernel_rfl) ?_
      intro f1 _ _
      rw [List.append_nil]
      rw [List.append_nil]
      exact ⟨rfl, rfl, c2, k4⟩
    | true =>
      have e1 : (!(step s d l).2) = false := by rw [hok]; rfl
      rw [runI_tt hok]
      rw [hok] at c2
      by_cases h20 : 20 < d
      · have e2 : decide ((20 : Int) < Int.ofNat d) = true := by simp; omega
        rw [if_pos h20]
        refine Rk.adv 2 (by kernel_rfl) ?_
        refine Rk.box hm (H := G) (L := []) (ty := 187) (v := AV.yld y) 0 (by kernel_rfl) (by kernel_rfl) (by kernel_rfl) (by kernel_rfl) ?_
        refine Rk.adv 4 (by kernel_rfl) ?_
        refine Rk.load hm (H := G) (L := [Blk.cells 1 187 [AV.yld y]]) (n := 1) (ag := false) (j := 0) (o := 0) (st := 1) (ty := 187) (cs := [AV.yld y]) (v := AV.yld y) (by kernel_rfl) (by kernel_rfl) (by kernel_rfl) (by kernel_rfl) ?_
        refine Rk.loadE h1 (L := [Blk.cells 1 187 [AV.yld y]]) (n := 1) (ag := false) (o := 0) (v := AV.int IntKind.i64 (Int.ofNat d)) (by kernel_rfl) (by kernel_rfl) (by kernel_rfl) ?_
        refine Rk.loadE h2 (L := [Blk.cells 1 187 [AV.yld y]]) (n := 1) (ag := false) (o := 0) (v := AV.lst (It.avs l)) (by kernel_rfl) (by kernel_rfl) (by kernel_rfl) ?_
        refine Rk.callH (H := G ++ [Blk.cells 1 187 [AV.yld y]]) (hH := by kernel_rfl) (as := [AV.int IntKind.i64 (Int.ofNat d), AV.lst (It.avs l)]) (by kernel_rfl) (c1) ?_
        refine Rk.adv 2 (by kernel_rfl) ?_
        refine Rk.know p13 (!Prod.snd (step s d l)) false (by kernel_rfl) e1 ?_
        refine Rk.loadE k1 (L := []) (n := 1) (ag := false) (o := 0) (v := AV.int IntKind.i64 (Int.ofNat d)) (by kernel_rfl) (by kernel_rfl) (by kernel_rfl) ?_
        refine Rk.adv 3 (by kernel_rfl) ?_
        refine Rk.know p16 (decide (20 < Int.ofNat d)) true (by kernel_rfl) e2 ?_
        refine Rk.adv 3 (by kernel_rfl) ?_
        -- FIN
        refine Rk.doneK F115 .ret (G2 ++ []) [] [] (by kernel_rfl) (by kernel_rfl) (by kernel_rfl) (by kernel_rfl) (by kernel_rfl) (by kernel_rfl) ?_
        intro f1 _ _
        rw [List.append_nil]
        rw [List.append_nil]
        exact ⟨rfl, rfl, c2, k4⟩
      · have e2 : decide ((20 : Int) < Int.ofNat d) = false := by simp; omega
        rw [if_neg h20]
        refine Rk.adv 2 (by kernel_rfl) ?_
        refine Rk.box hm (H := G) (L := []) (ty := 187) (v := AV.yld y) 0 (by kernel_rfl) (by kernel_rfl) (by kernel_rfl) (by kernel_rfl) ?_
        refine Rk.adv 4 (by kernel_rfl) ?_
        refine Rk.load hm (H := G) (L := [Blk.cells 1 187 [AV.yld y]]) (n := 1) (ag := false) (j := 0) (o := 0) (st := 1) (ty := 187) (cs := [AV.yld y]) (v := AV.yld y) (by kernel_rfl) (by kernel_rfl) (by kernel_rfl) (by kernel_rfl) ?_
        refine Rk.loadE h1 (L := [Blk.cells 1 187 [AV.yld y]]) (n := 1) (ag := false) (o := 0) (v := AV.int IntKind.i64 (Int.ofNat d)) (by kernel_rfl) (by kernel_rfl) (by kernel_rfl) ?_
        refine Rk.loadE h2 (L := [Blk.cells 1 187 [AV.yld y]]) (n := 1) (ag := false) (o := 0) (v := AV.lst (It.avs l)) (by kernel_rfl) (by kernel_rfl) (by kernel_rfl) ?_
        refine Rk.callH (H := G ++ [Blk.cells 1 187 [AV.yld y]]) (hH := by kernel_rfl) (as := [AV.int IntKind.i64 (Int.ofNat d), AV.lst (It.avs l)]) (by kernel_rfl) (c1) ?_
        refine Rk.adv 2 (by kernel_rfl) ?_
        refine Rk.know p13 (!Prod.snd (step s d l)) false (by kernel_rfl) e1 ?_
        refine Rk.loadE k1 (L := []) (n := 1) (ag := false) (o := 0) (v := AV.int IntKind.i64 (Int.ofNat d)) (by kernel_rfl) (by kernel_rfl) (by kernel_rfl) ?_
        refine Rk.adv 3 (by kernel_rfl) ?_
        refine Rk.know p16 (decide (20 < Int.ofNat d)) false (by kernel_rfl) e2 ?_
        refine Rk.adv 4 (by kernel_rfl) ?_
        refine Rk.loadE k2 (L := []) (n := 1) (ag := false) (o := 0) (v := AV.lst (It.avs l)) (by kernel_rfl) (by kernel_rfl) (by kernel_rfl) ?_
        refine Rk.adv 4 (by kernel_rfl) ?_
        -- LOOP
        refine Rk.kn F115 [.code c115_11, .blk 0] (G2 ++ []) [(p1, .ptr bd 0), (p3, .ptr (G.length + 0) 0), (p17, .lst (It.avs l)), (p18, .int .i64 (Int.ofNat (It.avs l).length)), (p19, .int .i64 (Int.ofNat 0))] [] (by kernel_rfl) (by kernel_rfl) (by kernel_rfl) (by kernel_rfl) (by kernel_rfl) (by kernel_rfl) ?_
        intro f1 hk1 _
        rw [List.append_nil]
        rw [List.append_nil]
        exact lp115 h73 ih hn hc (by omega) hl hs hbd (nl (by omega)) (by omega) (by omega) l.length 0 _ G2 f1 (by omega) c2 rfl k4 k1 k3 hk1
end Go.EV

/- shape.may: its body. -/
namespace Go.EV
set_option maxRecDepth 100000
theorem Rk.sliceTo {E : Env} {Q : Ex → Fr → Hp → Prop} {s : St} {es : Nat} {x hi : CX} {l : List (List AV)} {i : Nat} (h : nextOp s = some (.slice es x none (some hi) none)) (hx : x.ev s.f = .lst l) (hi' : hi.ev s.f = .int .i64 (Int.ofNat i)) (hh : headOk es l = true) (hle : i ≤ l.length) (r : Rk E (after E s (.lst (l.take i)) s.H) Q) : Rk E s Q :=
  Rk.op h (by simp only [evI, hx, evLen, optOf, hi', natOf, evSlice, hh, Nat.zero_le, hle, true_and, and_self, if_true, Option.map_some, List.drop_zero, Nat.sub_zero]) r
theorem It.avs_take (l : List It) (i : Nat) : (It.avs l).take i = It.avs (l.take i) := by rw [It.avs_map, It.avs_map, List.map_take]
noncomputable def stepM : Int → Nat → List It → Int × Bool := fun m d l => (IntKind.i64.wrap (m + Int.ofNat l.length), decide (d ≤ 20) && (decide (IntKind.i64.wrap (m + Int.ofNat l.length) ≤ 1000) && lsOk l))
abbrev bd42 : CC := .blk 1 (.seq c42_5 (.seq (.seq c42_6 (.cond X21 (.seq c42_7 .ret) .skip)) (.seq c42_8 (.blk 2 c42_14))))
abbrev fr42 (g : Pth → AV) : Fr := mkT F42.depth F42.np (ovr [(p2, .ptr 0 0), (p3, .ptr 1 0)] g)
def JM (g : Pth → AV) (m : Int) (b : Bool) (H : Hp) : Prop :=
  H[0]? = some (.cells 1 4 [.bool false]) ∧ H[1]? = some (.cells 1 3 [.int .i64 m]) ∧ (if b = true then H[4]? = some (.loop 0 .norm (fr42 g) [p10, p11] (.seq c42_3 c42_4) bd42) else ∃ f' ps a b, H[4]? = some (.loop 2 .ret f' ps a b))
abbrev DM (c : Nat) : Prop := c = 0 ∨ c = 1 ∨ c = 4
open Classical in
theorem lsOk_iff {l : List It} : lsOk l = true ↔ ∀ (i : Nat) (x : It), l[i]? = some x → x.one = true ∧ ∀ (k : Nat) (y : It), k < i → l[k]? = some y → x.like y = false := by
  unfold lsOk; exact decide_eq_true_iff
theorem any_like {l : List It} {i : Nat} {x : It} : ((l.take i).any fun y => x.like y) = false ↔ ∀ (k : Nat) (y : It), k < i → l[k]? = some y → x.like y = false := by
  rw [List.any_eq_false]
  constructor
  · intro h k y hk hy
    have := h y (List.mem_of_getElem? (i := k) (by rw [List.getElem?_take, if_pos hk]; exact hy))
    simpa using this
  · intro h y hy
    obtain ⟨k, hk⟩ := List.getElem?_of_mem hy
    rw [List.getElem?_take] at hk
    split at hk
    · rename_i hki
      simp [h k y hki hk]
    · cases hk
abbrev QM (l : List It) (G0 : Hp) (lp : Blk) (m : Int) : Ex → Fr → Hp → Prop := fun e _ H => ((e = .norm ∧ lsOk l = true) ∨ (e = .ret ∧ lsOk l = false)) ∧ H[0]? = some (.cells 1 4 [.bool false]) ∧ H[1]? = some (.cells 1 3 [.int .i64 m]) ∧ H[4]? = some lp ∧ Fd DM G0 H
theorem st42 {E : Env} {l : List It} {G0 : Hp} {lp : Blk} {m : Int} (hno : lsOk l = false) {C : Hp} {g : Pth → AV} (h0 : C[0]? = some (.cells 1 4 [.bool false])) (h1 : C[1]? = some (.cells 1 3 [.int .i64 m])) (h4 : C[4]? = some lp) (hf : Fd DM G0 C) :
    Rk E ⟨[.code (.seq c42_12 .ret), .blk 3, .code c42_13, .code c42_14, .blk 2, .blk 1], .norm, mkT F42.depth F42.np (ovr [(p2, .ptr 0 0)] g), C⟩ (QM l G0 lp m) := by
  have hm : C.length = C.length := rfl
  rw [← List.append_nil C]
  refine Rk.adv 2 (by kernel_rfl) ?_
  refine Rk.storeE hm h0 (L := []) (n := 1) (o := 0) (v := AV.bool false) ([AV.bool false]) (by kernel_rfl) (by kernel_rfl) (by kernel_rfl) (by kernel_rfl) fun G1 hl1 he1 hb1 ho1 => ?_
  refine Rk.adv 7 (by kernel_rfl) ?_
  -- FIN
  refine Rk.doneK F42 .ret (G1 ++ []) [] [] (by kernel_rfl) (by kernel_rfl) (by kernel_rfl) (by kernel_rfl) (by kernel_rfl) (by kernel_rfl) ?_
  intro f1 _ _
  exact ⟨.inr ⟨rfl, hno⟩, at_elder hb1, at_elder ((ho1 1 (by omega)).trans h1), at_elder ((ho1 4 (by omega)).trans h4), Fd.trans hf (Fd.trans ⟨Nat.le_of_eq hl1.symm, fun c _ hd => ho1 c fun e => hd (.inl e)⟩ (Fd.app _))⟩
set_option maxHeartbeats 4000000 in
theorem lp42 {E : Env} (h74 : Has E 74 F74.pure) (h97 : Has E 97 F97) (h107 : Has E 107 F107) (h116 : Has E 116 F116.pure) (h154 : Has E 154 F154) (h75 : Has E 75 F75.open) (h117 : Has E 117 F117.open) (h76 : Has E 76 F76) (h77 : Has E 77 F77.pure) {l : List It} (hl : l.length ≤ mx63) (hs : It.sms l) {G0 : Hp} {lp : Blk} {m : Int} :
    ∀ (j i : Nat) (G : Hp) (f : Fr), i + j = l.length → (∀ (k : Nat) (x : It), k < i → l[k]? = some x → x.one = true ∧ ∀ (k' : Nat) (y : It), k' < k → l[k']? = some y → x.like y = false) → G[0]? = some (.cells 1 4 [.bool false]) → G[1]? = some (.cells 1 3 [.int .i64 m]) → G[4]? = some lp → Fd DM G0 G →
      Knows F42 f [(p2, .ptr 0 0), (p3, .ptr 1 0), (p5, .lst (It.avs l)), (p22, .lst (It.avs l)), (p23, .int .i64 (Int.ofNat (It.avs l).length)), (p24, .int .i64 (Int.ofNat i))] →
      Rk E ⟨[.code c42_14, .blk 2, .blk 1], .norm, f, G⟩ (QM l G0 lp m) := by
  have hi63 : mx63 = 9223372036854775807 := rfl
  intro j
  induction j with
  | zero =>
    intro i G f hi hall h0 h1 h4 hf hk
    obtain ⟨g, rfl⟩ := hk.gen
    have hlt : decide (Int.ofNat i < Int.ofNat (It.avs l).length) = false := by rw [It.len]; simp; omega
    have hok : lsOk l = true := lsOk_iff.2 fun k x hx => hall k x (by have := (List.getElem?_eq_some_iff.1 hx).1; omega) hx
    refine Rk.adv 6 (by kernel_rfl) ?_
    refine Rk.know p25 (decide (Int.ofNat i < Int.ofNat (List.length (It.avs l)))) false (by kernel_rfl) hlt ?_
    refine Rk.adv 6 (by kernel_rfl) ?_
    -- FIN
    refine Rk.doneK F42 .norm G [] [] (by kernel_rfl) (by kernel_rfl) (by kernel_rfl) (by kernel_rfl) (by kernel_rfl) (by kernel_rfl) ?_
    intro f1 _ _
    exact ⟨.inl ⟨rfl, hok⟩, h0, h1, h4, hf⟩
  | succ j ihj =>
    intro i G f hi hall h0 h1 h4 hf hk
    obtain ⟨g, rfl⟩ := hk.gen
    have hlt : decide (Int.ofNat i < Int.ofNat (It.avs l).length) = true := by rw [It.len]; simp; omega
    obtain ⟨x, hx⟩ : ∃ x, l[i]? = some x := ⟨_, List.getElem?_eq_getElem (by omega)⟩
    obtain ⟨w, a, b, li, hh, dk, dn, ds, nn, sub, r⟩ := x
    have hat := It.at hx
    obtain ⟨q1, q2, q3, q4⟩ := It.sms_at hs hx
    have e74 : ∀ H, Cl E (.fn 74 []) [.agg (itv w a b li hh dk dn ds nn (.lst (It.avs sub)) r)] H (.bool (oneB w a b li hh dk dn ds nn sub.length r)) H := (l74 h74 h97 h107 h116 h154 w a b li hh dk dn ds nn sub r q1 q2).cl rfl
    have hm : G.length = G.length := rfl
    have d0 : (0 : Nat) ≠ G.length + 0 := by have := (List.getElem?_eq_some_iff.1 h0).1; omega
    cases ho : oneB w a b li hh dk dn ds nn sub.length r with
    | false =>
      have e1 : (!oneB w a b li hh dk dn ds nn sub.length r) = true := by rw [ho]; rfl
      have hno : lsOk l = false := by
        cases hq : lsOk l with
        | false => rfl
        | true => have := (lsOk_iff.1 hq i _ hx).1; rw [It.one, ho] at this; cases this
      rw [← List.append_nil G]
      refine Rk.adv 6 (by kernel_rfl) ?_
      refine Rk.know p25 (decide (Int.ofNat i < Int.ofNat (List.length (It.avs l)))) true (by kernel_rfl) hlt ?_
      refine Rk.adv 7 (by kernel_rfl) ?_
      refine Rk.iaddr (l := It.avs l) (n := i) (c := [AV.bool w, AV.str a, AV.bool b, AV.int IntKind.i64 li, AV.bool hh, AV.int IntKind.i64 dk, AV.int IntKind.i64 dn,
      AV.str ds, AV.bool nn, AV.lst (It.avs sub), AV.int IntKind.i64 r]) (es := 11) (by kernel_rfl) hat (by kernel_rfl) ?_
      refine Rk.adv 1 (by kernel_rfl) ?_
      refine Rk.alloc hm (H := G) (L := []) (ty := 44) (z := [AV.bool false, AV.str [], AV.bool false, AV.int IntKind.i64 0, AV.bool false, AV.int IntKind.i64 0,
      AV.int IntKind.i64 0, AV.str [], AV.bool false, AV.nils, AV.int IntKind.i64 0]) 0 (by kernel_rfl) (by kernel_rfl) (by kernel_rfl) ?_
      refine Rk.adv 1 (by kernel_rfl) ?_
      refine Rk.store hm (H := G) (L := [Blk.cells 1 44
        [AV.bool false, AV.str [], AV.bool false, AV.int IntKind.i64 0, AV.bool false, AV.int IntKind.i64 0,
          AV.int IntKind.i64 0, AV.str [], AV.bool false, AV.nils, AV.int IntKind.i64 0]]) (n := 11) (j := 0) (o := 0) (ty := 44) (cs := [AV.bool false, AV.str [], AV.bool false, AV.int IntKind.i64 0, AV.bool false, AV.int IntKind.i64 0,
      AV.int IntKind.i64 0, AV.str [], AV.bool false, AV.nils, AV.int IntKind.i64 0]) (v := AV.agg
      [AV.bool w, AV.str a, AV.bool b, AV.int IntKind.i64 li, AV.bool hh, AV.int IntKind.i64 dk, AV.int IntKind.i64 dn,
        AV.str ds, AV.bool nn, AV.lst (It.avs sub), AV.int IntKind.i64 r]) (by kernel_rfl) (by kernel_rfl) (by kernel_rfl) (by kernel_rfl) ?_
      refine Rk.adv 3 (by kernel_rfl) ?_
      refine Rk.load hm (H := G) (L := [Blk.cells 1 44
        [AV.bool w, AV.str a, AV.bool b, AV.int IntKind.i64 li, AV.bool hh, AV.int IntKind.i64 dk, AV.int IntKind.i64 dn,
          AV.str ds, AV.bool nn, AV.lst (It.avs sub), AV.int IntKind.i64 r]]) (n := 11) (ag := true) (j := 0) (o := 0) (st := 1) (ty := 44) (cs := [AV.bool w, AV.str a, AV.bool b, AV.int IntKind.i64 li, AV.bool hh, AV.int IntKind.i64 dk, AV.int IntKind.i64 dn,
      AV.str ds, AV.bool nn, AV.lst (It.avs sub), AV.int IntKind.i64 r]) (v := AV.agg
      [AV.bool w, AV.str a, AV.bool b, AV.int IntKind.i64 li, AV.bool hh, AV.int IntKind.i64 dk, AV.int IntKind.i64 dn,
        AV.str ds, AV.bool nn, AV.lst (It.avs sub), AV.int IntKind.i64 r]) (by kernel_rfl) (by kernel_rfl) (by kernel_rfl) (by kernel_rfl) ?_
      refine Rk.callH (H := G ++
      [Blk.cells 1 44
          [AV.bool w, AV.str a, AV.bool b, AV.int IntKind.i64 li, AV.bool hh, AV.int IntKind.i64 dk, AV.int IntKind.i64 dn,
            AV.str ds, AV.bool nn, AV.lst (It.avs sub), AV.int IntKind.i64 r]]) (hH := by kernel_rfl) (as := [AV.agg
        [AV.bool w, AV.str a, AV.bool b, AV.int IntKind.i64 li, AV.bool hh, AV.int IntKind.i64 dk, AV.int IntKind.i64 dn,
          AV.str ds, AV.bool nn, AV.lst (It.avs sub), AV.int IntKind.i64 r]]) (by kernel_rfl) (e74 _) ?_
      refine Rk.adv 2 (by kernel_rfl) ?_
      refine Rk.know p32 (!oneB w a b li hh dk dn ds nn (List.length sub) r) true (by kernel_rfl) e1 ?_
      refine Rk.adv 10 (by kernel_rfl) ?_
      refine Rk.storeE hm h0 (L := [Blk.cells 1 44
        [AV.bool w, AV.str a, AV.bool b, AV.int IntKind.i64 li, AV.bool hh, AV.int IntKind.i64 dk, AV.int IntKind.i64 dn,
          AV.str ds, AV.bool nn, AV.lst (It.avs sub), AV.int IntKind.i64 r]]) (n := 1) (o := 0) (v := AV.bool false) ([AV.bool false]) (by kernel_rfl) (by kernel_rfl) (by kernel_rfl) (by kernel_rfl) fun G1 hl1 he1 hb1 ho1 => ?_
      refine Rk.adv 7 (by kernel_rfl) ?_
      -- FIN
      refine Rk.doneK F42 .ret (G1 ++ [Blk.cells 1 44 (itv w a b li hh dk dn ds nn (.lst (It.avs sub)) r)]) [] [] (by kernel_rfl) (by kernel_rfl) (by kernel_rfl) (by kernel_rfl) (by kernel_rfl) (by kernel_rfl) ?_
      intro f1 _ _
      exact ⟨.inr ⟨rfl, hno⟩, at_elder hb1, at_elder ((ho1 1 (by omega)).trans h1), at_elder ((ho1 4 (by omega)).trans h4), Fd.trans hf (Fd.trans ⟨Nat.le_of_eq hl1.symm, fun c _ hd => ho1 c fun e => hd (.inl e)⟩ (Fd.app _))⟩
    | true =>
      have e1 : (!oneB w a b li hh dk dn ds nn sub.length r) = false := by rw [ho]; rfl
      rw [← List.append_nil G]
      refine Rk.adv 6 (by kernel_rfl) ?_
      refine Rk.know p25 (decide (Int.ofNat i < Int.ofNat (List.length (It.avs l)))) true (by kernel_rfl) hlt ?_
      refine Rk.adv 7 (by kernel_rfl) ?_
      refine Rk.iaddr (l := It.avs l) (n := i) (c := [AV.bool w, AV.str a, AV.bool b, AV.int IntKind.i64 li, AV.bool hh, AV.int IntKind.i64 dk, AV.int IntKind.i64 dn,
      AV.str ds, AV.bool nn, AV.lst (It.avs sub), AV.int IntKind.i64 r]) (es := 11) (by kernel_rfl) hat (by kernel_rfl) ?_
      refine Rk.adv 1 (by kernel_rfl) ?_
      refine Rk.alloc hm (H := G) (L := []) (ty := 44) (z := [AV.bool false, AV.str [], AV.bool false, AV.int IntKind.i64 0, AV.bool false, AV.int IntKind.i64 0,
      AV.int IntKind.i64 0, AV.str [], AV.bool false, AV.nils, AV.int IntKind.i64 0]) 0 (by kernel_rfl) (by kernel_rfl) (by kernel_rfl) ?_
      refine Rk.adv 1 (by kernel_rfl) ?_
      refine Rk.store hm (H := G) (L := [Blk.cells 1 44
        [AV.bool false, AV.str [], AV.bool false, AV.int IntKind.i64 0, AV.bool false, AV.int IntKind.i64 0,
          AV.int IntKind.i64 0, AV.str [], AV.bool false, AV.nils, AV.int IntKind.i64 0]]) (n := 11) (j := 0) (o := 0) (ty := 44) (cs := [AV.bool false, AV.str [], AV.bool false, AV.int IntKind.i64 0, AV.bool false, AV.int IntKind.i64 0,
      AV.int IntKind.i64 0, AV.str [], AV.bool false, AV.nils, AV.int IntKind.i64 0]) (v := AV.agg
      [AV.bool w, AV.str a, AV.bool b, AV.int IntKind.i64 li, AV.bool hh, AV.int IntKind.i64 dk, AV.int IntKind.i64 dn,
        AV.str ds, AV.bool nn, AV.lst (It.avs sub), AV.int IntKind.i64 r]) (by kernel_rfl) (by kernel_rfl) (by kernel_rfl) (by kernel_rfl) ?_
      refine Rk.adv 3 (by kernel_rfl) ?_
      refine Rk.load hm (H := G) (L := [Blk.cells 1 44
        [AV.bool w, AV.str a, AV.bool b, AV.int IntKind.i64 li, AV.bool hh, AV.int IntKind.i64 dk, AV.int IntKind.i64 dn,
          AV.str ds, AV.bool nn, AV.lst (It.avs sub), AV.int IntKind.i64 r]]) (n := 11) (ag := true) (j := 0) (o := 0) (st := 1) (ty := 44) (cs := [AV.bool w, AV.str a, AV.bool b, AV.int IntKind.i64 li, AV.bool hh, AV.int IntKind.i64 dk, AV.int IntKind.i64 dn,
      AV.str ds, AV.bool nn, AV.lst (It.avs sub), AV.int IntKind.i64 r]) (v := AV.agg
      [AV.bool w, AV.str a, AV.bool b, AV.int IntKind.i64 li, AV.bool hh, AV.int IntKind.i64 dk, AV.int IntKind.i64 dn,
        AV.str ds, AV.bool nn, AV.lst (It.avs sub), AV.int IntKind.i64 r]) (by kernel_rfl) (by kernel_rfl) (by kernel_rfl) (by kernel_rfl) ?_
      refine Rk.callH (H := G ++
      [Blk.cells 1 44
          [AV.bool w, AV.str a, AV.bool b, AV.int IntKind.i64 li, AV.bool hh, AV.int IntKind.i64 dk, AV.int IntKind.i64 dn,
            AV.str ds, AV.bool nn, AV.lst (It.avs sub), AV.int IntKind.i64 r]]) (hH := by kernel_rfl) (as := [AV.agg
        [AV.bool w, AV.str a, AV.bool b, AV.int IntKind.i64 li, AV.bool hh, AV.int IntKind.i64 dk, AV.int IntKind.i64 dn,
          AV.str ds, AV.bool nn, AV.lst (It.avs sub), AV.int IntKind.i64 r]]) (by kernel_rfl) (e74 _) ?_
      refine Rk.adv 2 (by kernel_rfl) ?_
      refine Rk.know p32 (!oneB w a b li hh dk dn ds nn (List.length sub) r) false (by kernel_rfl) e1 ?_
      refine Rk.adv 2 (by kernel_rfl) ?_
      obtain ⟨H1, c75, X, rfl⟩ := cl75 h75 h117 h76 h77 (l := l.take i) (by rw [List.length_take]; omega) (H := G ++ [Blk.cells 1 44 (itv w a b li hh dk dn ds nn (.lst (It.avs sub)) r)]) (xb := G.length + 0) (w := w) (a := a) (b := b) (li := li) (hh := hh) (dk := dk) (dn := dn) (ds := ds) (n := nn) (r := r) (L := It.avs sub) at_end
      rw [show (fun y : It => It.lk w a b y) = (It.mk w a b li hh dk dn ds nn sub r).like from funext fun y => by cases y; rfl] at c75
      refine Rk.sliceTo (es := 11) (x := X33) (hi := X34) (l := It.avs l) (i := i) (by kernel_rfl) (by kernel_rfl) (by kernel_rfl) (It.avs_head l) (by rw [It.len]; omega) ?_
      rw [It.avs_take]
      refine Rk.adv 1 (by kernel_rfl) ?_
      refine Rk.callH (H := G ++ [Blk.cells 1 44 (itv w a b li hh dk dn ds nn (.lst (It.avs sub)) r)]) (by kernel_rfl) (by kernel_rfl) c75 ?_
      have k0 : (G ++ [Blk.cells 1 44 (itv w a b li hh dk dn ds nn (.lst (It.avs sub)) r)] ++ X)[0]? = some (.cells 1 4 [.bool false]) := at_elder (at_elder h0)
      have k1 : (G ++ [Blk.cells 1 44 (itv w a b li hh dk dn ds nn (.lst (It.avs sub)) r)] ++ X)[1]? = some (.cells 1 3 [.int .i64 m]) := at_elder (at_elder h1)
      have k4 : (G ++ [Blk.cells 1 44 (itv w a b li hh dk dn ds nn (.lst (It.avs sub)) r)] ++ X)[4]? = some lp := at_elder (at_elder h4)
      have kf : Fd DM G0 (G ++ [Blk.cells 1 44 (itv w a b li hh dk dn ds nn (.lst (It.avs sub)) r)] ++ X) := hf.trans ((Fd.app _).trans (Fd.app _))
      cases hany : (l.take i).any (It.mk w a b li hh dk dn ds nn sub r).like with
      | true =>
        have hno : lsOk l = false := by
          cases hq : lsOk l with
          | false => rfl
          | true =>
            have := any_like.2 (lsOk_iff.1 hq i _ hx).2
            rw [this] at hany
            cases hany
        refine Rk.adv 3 (by kernel_rfl) ?_
        refine Rk.kn F42 [.code (.seq c42_12 .ret), .blk 3, .code c42_13, .code c42_14, .blk 2, .blk 1] (G ++ [Blk.cells 1 44 (itv w a b li hh dk dn ds nn (.lst (It.avs sub)) r)] ++ X) [(p2, .ptr 0 0)] [] (by kernel_rfl) (by kernel_rfl) (by kernel_rfl) (by kernel_rfl) (by kernel_rfl) (by kernel_rfl) ?_
        intro f1 hk1 _
        obtain ⟨g1, rfl⟩ := hk1.gen
        exact st42 hno k0 k1 k4 kf
      | false =>
        have hal := any_like.1 hany
        refine Rk.adv 9 (by kernel_rfl) ?_
        refine Rk.inc p24 i (by kernel_rfl) (by omega) ?_
        refine Rk.kn F42 [.code c42_14, .blk 2, .blk 1] (G ++ [Blk.cells 1 44 (itv w a b li hh dk dn ds nn (.lst (It.avs sub)) r)] ++ X) [(p2, .ptr 0 0), (p3, .ptr 1 0), (p5, .lst (It.avs l)), (p22, .lst (It.avs l)), (p23, .int .i64 (Int.ofNat (It.avs l).length)), (p24, .int .i64 (Int.ofNat (i + 1)))] [] (by kernel_rfl) (by kernel_rfl) (by kernel_rfl) (by kernel_rfl) (by kernel_rfl) (by kernel_rfl) ?_
        intro f1 hk1 _
        refine ihj (i + 1) _ f1 (by omega) (fun k x hk hxk => ?_) k0 k1 k4 kf hk1
        by_cases e : k = i
        · subst e
          rw [hx, Option.some.injEq] at hxk
          subst hxk
          exact ⟨by rw [It.one]; exact ho, hal⟩
        · exact hall k x (by omega) hxk
end Go.EV

/- shape.may and shape.Check. -/
namespace Go.EV
set_option maxRecDepth 100000
/-- How the body ends. -/
theorem end42 {g : Pth → AV} {l : List It} {d : Nat} {s : Int} {G G1 : Hp} {m : Int} (hm : m = IntKind.i64.wrap (s + Int.ofNat l.length)) {e : Ex} {ok : Bool} (hok : (stepM s d l).2 = ok) (he : e = if ok = true then .norm else .ret) (k0 : G1[0]? = some (.cells 1 4 [.bool false])) (k1 : G1[1]? = some (.cells 1 3 [.int .i64 m])) (k4 : G1[4]? = some (.loop 1 .norm (fr42 g) [p10, p11] (.seq c42_3 c42_4) bd42)) (kf : Fd DM G G1) :
    ∃ e4 f4 ps4 a4 b4, G1[4]? = some (.loop 1 e4 f4 ps4 a4 b4) ∧ YR (fun v G' => v = .bool (stepM s d l).2 ∧ JM g (stepM s d l).1 (stepM s d l).2 G' ∧ Fd DM G G') e 4 f4 ps4 a4 b4 G1 := by
  refine ⟨_, _, _, _, _, k4, ?_⟩
  have hlt := (List.getElem?_eq_some_iff.1 k4).1
  subst he
  have fin : ∀ k, Fd DM G (G1.set 4 k) := fun k => kf.trans (Fd.setb (.inr (.inr rfl)) k)
  have f0 : ∀ k, (G1.set 4 k)[0]? = some (.cells 1 4 [.bool false]) := fun k => by rw [List.getElem?_set_ne (by omega)]; exact k0
  have f1 : ∀ k, (G1.set 4 k)[1]? = some (.cells 1 3 [.int .i64 (stepM s d l).1]) := fun k => by rw [List.getElem?_set_ne (by omega), k1, hm]; rfl
  rw [hok]
  cases ok with
  | true => exact ⟨rfl, ⟨f0 _, f1 _, by rw [if_pos rfl, List.getElem?_set_self hlt]⟩, fin _⟩
  | false => exact ⟨rfl, ⟨f0 _, f1 _, by rw [if_neg (by simp), List.getElem?_set_self hlt]; exact ⟨_, _, _, _, rfl⟩⟩, fin _⟩
set_option maxHeartbeats 4000000 in
theorem con42 {E : Env} (h74 : Has E 74 F74.pure) (h97 : Has E 97 F97) (h107 : Has E 107 F107) (h116 : Has E 116 F116.pure) (h154 : Has E 154 F154) (h75 : Has E 75 F75.open) (h117 : Has E 117 F117.open) (h76 : Has E 76 F76) (h77 : Has E 77 F77.pure) {g : Pth → AV} : Con E (.yld 4) stepM (JM g) DM where
  low := by
    intro s b G c hj hc
    obtain ⟨j0, j1, j4⟩ := hj
    rcases hc with rfl | rfl | rfl
    · exact (List.getElem?_eq_some_iff.1 j0).1
    · exact (List.getElem?_eq_some_iff.1 j1).1
    · cases b with
      | true => rw [if_pos rfl] at j4; exact (List.getElem?_eq_some_iff.1 j4).1
      | false => rw [if_neg (by simp)] at j4; obtain ⟨_, _, _, _, j4⟩ := j4; exact (List.getElem?_eq_some_iff.1 j4).1
  mono := by
    intro s b G G' hj hc
    obtain ⟨j0, j1, j4⟩ := hj
    refine ⟨(hc _ (.inl rfl)).trans j0, (hc _ (.inr (.inl rfl))).trans j1, ?_⟩
    rw [hc 4 (.inr (.inr rfl))]
    exact j4
  call := by
    intro s G d l hj hd hl hs
    obtain ⟨j0, j1, j4⟩ := hj
    rw [if_pos rfl] at j4
    have hLG := (List.getElem?_eq_some_iff.1 j4).1
    suffices q : ∃ v G', Cl E (.yld 4) [.int .i64 (Int.ofNat d), .lst (It.avs l)] G v G' ∧ (v = .bool (stepM s d l).2 ∧ JM g (stepM s d l).1 (stepM s d l).2 G' ∧ Fd DM G G') by
      obtain ⟨v, G', q1, rfl, q2, q3⟩ := q
      exact ⟨G', q1, q2, q3⟩
    refine Cl.yldG (f1 := ((fr42 g).set p10 (.int .i64 (Int.ofNat d))).set p11 (.lst (It.avs l))) j4 (by kernel_rfl) ?_
    refine Rk.adv 7 (by kernel_rfl) ?_
    -- FIN
    refine Rk.doneK F42 .norm G [(p2, .ptr 0 0), (p3, .ptr 1 0), (p4, .int .i64 (Int.ofNat d)), (p5, .lst (It.avs l))] [] (by kernel_rfl) (by kernel_rfl) (by kernel_rfl) (by kernel_rfl) (by kernel_rfl) (by kernel_rfl) ?_
    intro f1 hk1 _
    refine ⟨rfl, _, _, _, _, _, j4, ?_⟩
    have k0 : (G.set 4 (.loop 1 .norm (fr42 g) [p10, p11] (.seq c42_3 c42_4) bd42))[0]? = some (.cells 1 4 [.bool false]) := by rw [List.getElem?_set_ne (by omega)]; exact j0
    have k1 : (G.set 4 (.loop 1 .norm (fr42 g) [p10, p11] (.seq c42_3 c42_4) bd42))[1]? = some (.cells 1 3 [.int .i64 s]) := by rw [List.getElem?_set_ne (by omega)]; exact j1
    have k4 : (G.set 4 (.loop 1 .norm (fr42 g) [p10, p11] (.seq c42_3 c42_4) bd42))[4]? = some (.loop 1 .norm (fr42 g) [p10, p11] (.seq c42_3 c42_4) bd42) := by rw [List.getElem?_set_self hLG]
    have k5 : Fd DM G (G.set 4 (.loop 1 .norm (fr42 g) [p10, p11] (.seq c42_3 c42_4) bd42)) := Fd.setb (.inr (.inr rfl)) _
    generalize (G.set 4 (.loop 1 .norm (fr42 g) [p10, p11] (.seq c42_3 c42_4) bd42)) = C at k0 k1 k4 k5 ⊢
    obtain ⟨g1, rfl⟩ := hk1.gen
    have hm : C.length = C.length := rfl
    have n01 : (0 : Nat) ≠ 1 := by decide
    have n41 : (4 : Nat) ≠ 1 := by decide
    have n40 : (4 : Nat) ≠ 0 := by decide
    have hgt : (It.avs l).length = l.length := It.len l
    by_cases hd2 : d ≤ 20
    · have e1 : decide ((20 : Int) < Int.ofNat d) = false := by simp; omega
      by_cases hm2 : IntKind.i64.wrap (s + Int.ofNat (It.avs l).length) ≤ 1000
      · have hm3 : IntKind.i64.wrap (s + Int.ofNat l.length) ≤ 1000 := hgt ▸ hm2
        have e2 : decide ((1000 : Int) < IntKind.i64.wrap (s + Int.ofNat (It.avs l).length)) = false := decide_eq_false (Int.not_lt.2 hm2)
        rw [← List.append_nil C]
        refine Rk.adv 3 (by kernel_rfl) ?_
        refine Rk.loadE k1 (L := []) (n := 1) (ag := false) (o := 0) (v := AV.int IntKind.i64 s) (by kernel_rfl) (by kernel_rfl) (by kernel_rfl) ?_
        refine Rk.adv 3 (by kernel_rfl) ?_
        refine Rk.storeE hm k1 (L := []) (n := 1) (o := 0) (v := AV.int IntKind.i64 (IntKind.wrap IntKind.i64 (s + (↑(List.length (It.avs l)) : Int)))) ([AV.int IntKind.i64 (IntKind.wrap IntKind.i64 (s + (↑(List.length (It.avs l)) : Int)))]) (by kernel_rfl) (by kernel_rfl) (by kernel_rfl) (by kernel_rfl) fun G1 hl1 he1 hb1 ho1 => ?_
        have k01 := (ho1 _ n01).trans k0
        have k41 := (ho1 _ n41).trans k4
        refine Rk.adv 7 (by kernel_rfl) ?_
        refine Rk.know p18 (decide (20 < Int.ofNat d)) false (by kernel_rfl) e1 ?_
        refine Rk.loadE hb1 (L := []) (n := 1) (ag := false) (o := 0) (v := AV.int IntKind.i64 (IntKind.wrap IntKind.i64 (s + (↑(List.length (It.avs l)) : Int)))) (by kernel_rfl) (by kernel_rfl) (by kernel_rfl) ?_
        refine Rk.adv 3 (by kernel_rfl) ?_
        refine Rk.know p21 (decide (1000 < IntKind.wrap IntKind.i64 (s + (↑(List.length (It.avs l)) : Int)))) false (by kernel_rfl) e2 ?_
        refine Rk.adv 9 (by kernel_rfl) ?_
        -- LOOP
        refine Rk.kn F42 [.code c42_14, .blk 2, .blk 1] (G1 ++ []) [(p2, .ptr 0 0), (p3, .ptr 1 0), (p5, .lst (It.avs l)), (p22, .lst (It.avs l)), (p23, .int .i64 (Int.ofNat (It.avs l).length)), (p24, .int .i64 (Int.ofNat 0))] [] (by kernel_rfl) (by kernel_rfl) (by kernel_rfl) (by kernel_rfl) (by kernel_rfl) (by kernel_rfl) ?_
        intro f2 hk2 _
        rw [List.append_nil]
        refine (lp42 h74 h97 h107 h116 h154 h75 h117 h76 h77 hl hs l.length 0 G1 f2 (by omega) (fun k x hk => absurd hk (by omega)) k01 hb1 k41 Fd.refl hk2).weak ?_
        rintro e f H ⟨hq, q0, q1, q4, qf⟩
        rcases hq with ⟨rfl, hq⟩ | ⟨rfl, hq⟩
        · exact end42 (by rw [← hgt]; rfl) (ok := true) (by show (decide _ && (decide _ && _)) = true; rw [decide_eq_true hd2, decide_eq_true hm3, hq]; rfl) rfl q0 q1 q4 (k5.trans (Fd.trans ⟨Nat.le_of_eq hl1.symm, fun c _ hd => ho1 c fun e => hd (.inr (.inl e))⟩ qf))
        · exact end42 (by rw [← hgt]; rfl) (ok := false) (by show (decide _ && (decide _ && _)) = false; rw [hq, Bool.and_false, Bool.and_false]) rfl q0 q1 q4 (k5.trans (Fd.trans ⟨Nat.le_of_eq hl1.symm, fun c _ hd => ho1 c fun e => hd (.inr (.inl e))⟩ qf))
      · have hm3 : ¬ IntKind.i64.wrap (s + Int.ofNat l.length) ≤ 1000 := hgt ▸ hm2
        have e2 : decide ((1000 : Int) < IntKind.i64.wrap (s + Int.ofNat (It.avs l).length)) = true := decide_eq_true (Int.not_le.1 hm2)
        rw [← List.append_nil C]
        refine Rk.adv 3 (by kernel_rfl) ?_
        refine Rk.loadE k1 (L := []) (n := 1) (ag := false) (o := 0) (v := AV.int IntKind.i64 s) (by kernel_rfl) (by kernel_rfl) (by kernel_rfl) ?_
        refine Rk.adv 3 (by kernel_rfl) ?_
        refine Rk.storeE hm k1 (L := []) (n := 1) (o := 0) (v := AV.int IntKind.i64 (IntKind.wrap IntKind.i64 (s + (↑(List.length (It.avs l)) : Int)))) ([AV.int IntKind.i64 (IntKind.wrap IntKind.i64 (s + (↑(List.length (It.avs l)) : Int)))]) (by kernel_rfl) (by kernel_rfl) (by kernel_rfl) (by kernel_rfl) fun G1 hl1 he1 hb1 ho1 => ?_
        have k01 := (ho1 _ n01).trans k0
        have k41 := (ho1 _ n41).trans k4
        refine Rk.adv 7 (by kernel_rfl) ?_
        refine Rk.know p18 (decide (20 < Int.ofNat d)) false (by kernel_rfl) e1 ?_
        refine Rk.loadE hb1 (L := []) (n := 1) (ag := false) (o := 0) (v := AV.int IntKind.i64 (IntKind.wrap IntKind.i64 (s + (↑(List.length (It.avs l)) : Int)))) (by kernel_rfl) (by kernel_rfl) (by kernel_rfl) ?_
        refine Rk.adv 3 (by kernel_rfl) ?_
        refine Rk.know p21 (decide (1000 < IntKind.wrap IntKind.i64 (s + (↑(List.length (It.avs l)) : Int)))) true (by kernel_rfl) e2 ?_
        refine Rk.adv 3 (by kernel_rfl) ?_
        refine Rk.storeE hl1 k01 (L := []) (n := 1) (o := 0) (v := AV.bool false) ([AV.bool false]) (by kernel_rfl) (by kernel_rfl) (by kernel_rfl) (by kernel_rfl) fun G2 hl2 he2 hb2 ho2 => ?_
        have hb12 := (ho2 _ (Ne.symm n01)).trans hb1
        have k412 := (ho2 _ n40).trans k41
        refine Rk.adv 4 (by kernel_rfl) ?_
        -- FIN
        refine Rk.doneK F42 .ret (G2 ++ []) [] [] (by kernel_rfl) (by kernel_rfl) (by kernel_rfl) (by kernel_rfl) (by kernel_rfl) (by kernel_rfl) ?_
        intro f2 _ _
        rw [List.append_nil]
        exact end42 (by rw [← hgt]; rfl) (ok := false) (by show (decide _ && (decide _ && _)) = false; rw [decide_eq_false hm3, Bool.false_and, Bool.and_false]) rfl hb2 hb12 k412 (k5.trans (Fd.trans ⟨Nat.le_of_eq hl1.symm, fun c _ hd => ho1 c fun e => hd (.inr (.inl e))⟩ (Fd.trans (G1 := G1) ⟨Nat.le_refl _, fun _ _ _ => rfl⟩ ⟨Nat.le_of_eq (hl2.trans hl1.symm).symm, fun c _ hd => ho2 c fun e => hd (.inl e)⟩)))
    · have e1 : decide ((20 : Int) < Int.ofNat d) = true := by simp; omega
      rw [← List.append_nil C]
      refine Rk.adv 3 (by kernel_rfl) ?_
      refine Rk.loadE k1 (L := []) (n := 1) (ag := false) (o := 0) (v := AV.int IntKind.i64 s) (by kernel_rfl) (by kernel_rfl) (by kernel_rfl) ?_
      refine Rk.adv 3 (by kernel_rfl) ?_
      refine Rk.storeE hm k1 (L := []) (n := 1) (o := 0) (v := AV.int IntKind.i64 (IntKind.wrap IntKind.i64 (s + (↑(List.length (It.avs l)) : Int)))) ([AV.int IntKind.i64 (IntKind.wrap IntKind.i64 (s + (↑(List.length (It.avs l)) : Int)))]) (by kernel_rfl) (by kernel_rfl) (by kernel_rfl) (by kernel_rfl) fun G1 hl1 he1 hb1 ho1 => ?_
      have k01 := (ho1 _ n01).trans k0
      have k41 := (ho1 _ n41).trans k4
      refine Rk.adv 7 (by kernel_rfl) ?_
      refine Rk.know p18 (decide (20 < Int.ofNat d)) true (by kernel_rfl) e1 ?_
      refine Rk.adv 7 (by kernel_rfl) ?_
      refine Rk.storeE hl1 k01 (L := []) (n := 1) (o := 0) (v := AV.bool false) ([AV.bool false]) (by kernel_rfl) (by kernel_rfl) (by kernel_rfl) (by kernel_rfl) fun G2 hl2 he2 hb2 ho2 => ?_
      have hb12 := (ho2 _ (Ne.symm n01)).trans hb1
      have k412 := (ho2 _ n40).trans k41
      refine Rk.adv 4 (by kernel_rfl) ?_
      -- FIN
      refine Rk.doneK F42 .ret (G2 ++ []) [] [] (by kernel_rfl) (by kernel_rfl) (by kernel_rfl) (by kernel_rfl) (by kernel_rfl) (by kernel_rfl) ?_
      intro f2 _ _
      rw [List.append_nil]
      exact end42 (by rw [← hgt]; rfl) (ok := false) (by show (decide _ && (decide _ && _)) = false; rw [decide_eq_false hd2, Bool.false_and]) rfl hb2 hb12 k412 (k5.trans (Fd.trans ⟨Nat.le_of_eq hl1.symm, fun c _ hd => ho1 c fun e => hd (.inr (.inl e))⟩ (Fd.trans (G1 := G1) ⟨Nat.le_refl _, fun _ _ _ => rfl⟩ ⟨Nat.le_of_eq (hl2.trans hl1.symm).symm, fun c _ hd => ho2 c fun e => hd (.inl e)⟩)))
end Go.EV

/- shape.may, shape.Check. -/
namespace Go.EV
set_option maxRecDepth 100000
theorem res42 {f : Fr} {H : Hp} {b : Bool} (hf : f.get p2 = some (.ptr 0 0)) (hH : H[0]? = some (.cells 1 4 [.bool b])) : (evRes f H F42.pure.results).bind (frz false H 0 8) = some (.bool b) := by
  simp only [show F42.results = [.cell p2 1 false] from rfl, evRes, optL, evRes1, hf, evLoad, hH, ldc, List.getElem?_cons_zero, Option.map_some, Option.bind_some]
  rfl
theorem fin42 {E : Env} {C : Hp} {g : Pth → AV} (h0 : C[0]? = some (.cells 1 4 [.bool false])) : Rk E ⟨[.blk 0, .code (.seq c42_16 .ret)], .norm, mkT F42.depth F42.np (ovr [(p2, .ptr 0 0)] g), C⟩ (Q1 F42.pure (.bool true)) := by
  have hm : C.length = C.length := rfl
  rw [← List.append_nil C]
  refine Rk.adv 3 (by kernel_rfl) ?_
  refine Rk.storeE hm h0 (L := []) (n := 1) (o := 0) (v := AV.bool true) ([AV.bool true]) (by kernel_rfl) (by kernel_rfl) (by kernel_rfl) (by kernel_rfl) fun G1 hl1 he1 hb1 ho1 => ?_
  refine Rk.adv 2 (by kernel_rfl) ?_
  -- FIN
  refine Rk.doneK F42 .ret (G1 ++ []) [(p2, .ptr 0 0)] [] (by kernel_rfl) (by kernel_rfl) (by kernel_rfl) (by kernel_rfl) (by kernel_rfl) (by kernel_rfl) ?_
  intro f1 hk1 _
  rw [List.append_nil]
  exact ⟨rfl, res42 hk1.2.1 hb1⟩
set_option maxHeartbeats 4000000 in
theorem l42 {E : Env} (h42 : Has E 42 F42.pure) (h115 : Has E 115 F115) (h73 : Has E 73 F73) (h74 : Has E 74 F74.pure) (h97 : Has E 97 F97) (h107 : Has E 107 F107) (h116 : Has E 116 F116.pure) (h154 : Has E 154 F154) (h75 : Has E 75 F75.open) (h117 : Has E 117 F117.open) (h76 : Has E 76 F76) (h77 : Has E 77 F77.pure) {l : List It} (hl : l.length ≤ mx63) (hs : It.sms l) (H : Hp) :
    Cl E (.fn 42 []) [.lst (It.avs l)] H (.bool (runI stepM l 1 0).2) H := by
  refine Cl.frozen h42 _ rfl rfl rfl (by kernel_rfl) ?_
  have c73 := cl73 h73 (It.avs l) 1 (H := [.cells 1 4 [.bool false], .cells 1 3 [.int .i64 0]]) (m := 2) rfl
  refine Rk.adv 13 (by kernel_rfl) ?_
  refine Rk.call (as := [AV.lst (It.avs l), AV.int IntKind.i64 1]) (by kernel_rfl) (c73) ?_
  refine Rk.adv 2 (by kernel_rfl) ?_
  refine Rk.kn F42 [.code c42_15, .blk 0, .code (.seq c42_16 .ret)] [.cells 1 4 [.bool false], .cells 1 3 [.int .i64 0], .cells 1 22 [.lst (It.avs l)], .cells 1 3 [.int .i64 1]] [(p2, .ptr 0 0), (p3, .ptr 1 0), (p9, .fn 115 [.ptr 3 0, .ptr 2 0])] [] (by kernel_rfl) (by kernel_rfl) (by kernel_rfl) (by kernel_rfl) (by kernel_rfl) (by kernel_rfl) ?_
  intro f1 hk1 _
  have hg9 : X9.ev f1 = .fn 115 [.ptr 3 0, .ptr 2 0] := by
    have := hk1.2.2.2.1
    simp only [X9, CX.ev, this]
  obtain ⟨g2, e2⟩ := (show Knows F42 f1 [(p2, .ptr 0 0), (p3, .ptr 1 0)] from ⟨hk1.1, hk1.2.1, hk1.2.2.1, trivial⟩).gen
  have con := con42 (g := g2) h74 h97 h107 h116 h154 h75 h117 h76 h77
  have e3 : fr42 g2 = f1 := e2.symm
  obtain ⟨G', r1, ⟨r0, r2, r4⟩, r3⟩ := run115 h115 h73 _ l (Nat.lt_succ_self _) con 0 1 ([.cells 1 4 [.bool false], .cells 1 3 [.int .i64 0], .cells 1 22 [.lst (It.avs l)], .cells 1 3 [.int .i64 1]] ++ [.loop 0 .norm f1 [p10, p11] (.seq c42_3 c42_4) bd42]) 3 2 ⟨rfl, rfl, by rw [if_pos rfl, e3]; rfl⟩ (by omega) hl hs rfl rfl (by rintro (e | e | e) <;> omega) (by rintro (e | e | e) <;> omega)
  have k0 : (G'.set 4 .dead)[0]? = some (.cells 1 4 [.bool false]) := by rw [List.getElem?_set_ne (by omega)]; exact r0
  cases hok : (runI stepM l 1 0).2 with
  | true =>
    rw [hok, if_pos rfl] at r4
    refine Rk.rngG hg9 r1 r4 (.inl ⟨rfl, rfl⟩) ?_
    obtain ⟨g3, e4⟩ := (show Knows F42 f1 [(p2, .ptr 0 0)] from ⟨hk1.1, hk1.2.1, trivial⟩).gen
    rw [e4]
    exact fin42 k0
  | false =>
    rw [hok, if_neg (by simp)] at r4
    obtain ⟨f', ps, a', b', r4⟩ := r4
    refine Rk.rngG hg9 r1 r4 (.inr rfl) ?_
    have e5 := hk1.2.1
    have k0' := k0
    change (G'.set (List.length [Blk.cells 1 4 [.bool false], .cells 1 3 [.int .i64 0], .cells 1 22 [.lst (It.avs l)], .cells 1 3 [.int .i64 1]]) .dead)[0]? = _ at k0'
    generalize G'.set (List.length [Blk.cells 1 4 [.bool false], .cells 1 3 [.int .i64 0], .cells 1 22 [.lst (It.avs l)], .cells 1 3 [.int .i64 1]]) .dead = G2 at k0' ⊢
    refine Rk.adv 2 (by kernel_rfl) ?_
    exact Rk.done rfl ⟨rfl, res42 e5 k0'⟩
end Go.EV
