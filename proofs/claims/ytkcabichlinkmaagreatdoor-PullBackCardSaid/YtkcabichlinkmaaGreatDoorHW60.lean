/- May a tree be written: what the program's function answers. -/
import Derived.Test.YtkcabichlinkmaaGreatDoorHCd3a
import Derived.Test.YtkcabichlinkmaaGreatDoorHTT
import Derived.Test.YtkcabichlinkmaaGreatDoorHMM
namespace Go.EV
set_option maxRecDepth 100000
def Rec60 (E : Env) (q : Ck) (t : List Br) : Prop := ∀ (d n : Int) (H : Hp) (b : Nat), H[b]? = some (.cells 1 3 [.int .i64 n]) → Lows 0 H →
  Cl E (.fn 60 []) [.lst (Br.avs t), .int .i64 d, .ptr b 0] H (.bool (mayT q d t n).1) (H.set b (.cells 1 3 [.int .i64 (mayT q d t n).2]))
def Chk97 (E : Env) (q : Ck) : Prop := ∀ (k n : Int) (s : List Nat), s.length ≤ mx63 → ∀ H, Cl E (.fn 97 []) [.agg [.int .i64 k, .int .i64 n, .str s]] H (.int .i64 (q.chk k n s)) H
theorem drop_cons {α : Type} {l : List α} {k : Nat} {x : α} (h : l[k]? = some x) : l.drop k = x :: l.drop (k + 1) := by
  have hk := (List.getElem?_eq_some_iff.1 h).1
  rw [List.drop_eq_getElem_cons hk]
  rw [List.getElem?_eq_getElem hk] at h
  cases h; rfl
set_option maxHeartbeats 4000000 in
theorem w60_in {fs : Nat → Option CF} {pr : Nat → List AV → Hp → Option (AV × Hp)} {q : Ck} (hchk : Chk97 (E3 fs pr) q) {ts : List Br} {i : Nat} {ls : List Lf} {d : Int} {H0 : Hp} {bm : Nat} (hls : ls.length ≤ mx63) (hsm : Lf.sms ls)
    (ih : ∀ (k : Nat) (kd n : Int) (s : List Nat) (j : Bool) (t : List Br), ls[k]? = some (.mk kd n s j t) → Rec60 (E3 fs pr) q t) :
    ∀ (m k : Nat), ls.length - k = m → ∀ (n : Int) (f : Fr) (C : Hp), Mi H0 bm C n → Knows F60 f [(p48, .int .i64 (Int.ofNat k)), (p46, .lst (Lf.avs ls)), (p47, .int .i64 (Int.ofNat (Lf.avs ls).length)), (p0, .lst (Br.avs ts)), (p1, .int .i64 d), (p2, .ptr bm 0), (p13, .lst (Br.avs ts)), (p14, .int .i64 (Int.ofNat (Br.avs ts).length)), (p15, .int .i64 (Int.ofNat i))] →
    Rk (E3 fs pr) ⟨[.code c60_15], .norm, f, C⟩ (fun e f' H' => Mi H0 bm H' (mayLs q d (ls.drop k) n).2 ∧ ((mayLs q d (ls.drop k) n).1 = true ∧ e = .exit 2 ∧ Knows F60 f' [(p0, .lst (Br.avs ts)), (p1, .int .i64 d), (p2, .ptr bm 0), (p13, .lst (Br.avs ts)), (p14, .int .i64 (Int.ofNat (Br.avs ts).length)), (p15, .int .i64 (Int.ofNat i))] ∨ (mayLs q d (ls.drop k) n).1 = false ∧ e = .ret ∧ Knows F60 f' [(p6, .bool false)])) := by
  intro m
  induction m with
  | zero =>
    intro k hm n f C hM hk
    obtain ⟨g, rfl⟩ := hk.gen
    have hlt : decide (Int.ofNat k < Int.ofNat (Lf.avs ls).length) = false := by rw [Lf.len]; simp; omega
    have hd : ls.drop k = [] := List.drop_eq_nil_of_le (by omega)
    rw [hd]
    simp only [mayLs]
    refine Rk.adv 6 (by kernel_rfl) ?_
    refine Rk.know p49 (decide (Int.ofNat k < Int.ofNat (List.length (Lf.avs ls)))) false (by kernel_rfl) hlt ?_
    refine Rk.adv 4 (by kernel_rfl) ?_
    -- FIN
    refine Rk.doneK F60 (.exit 2) C [(p0, .lst (Br.avs ts)), (p1, .int .i64 d), (p2, .ptr bm 0), (p13, .lst (Br.avs ts)), (p14, .int .i64 (Int.ofNat (Br.avs ts).length)), (p15, .int .i64 (Int.ofNat i))] [] (by kernel_rfl) (by kernel_rfl) (by kernel_rfl) (by kernel_rfl) (by kernel_rfl) (by kernel_rfl) ?_
    intro f1 hk1 _
    exact ⟨hM, .inl ⟨trivial, rfl, hk1⟩⟩
  | succ m hi =>
    intro k hm n f C hM hk
    obtain ⟨g, rfl⟩ := hk.gen
    have hlt : decide (Int.ofNat k < Int.ofNat (Lf.avs ls).length) = true := by rw [Lf.len]; simp; omega
    obtain ⟨⟨kd, nn, s, j, t⟩, hx⟩ : ∃ x, ls[k]? = some x := ⟨_, List.getElem?_eq_getElem (by omega)⟩
    have hl := Lf.at hx
    have hd := drop_cons hx
    have hs : s.length ≤ mx63 := (Lf.sms_at hsm hx).2.2
    have hc := hchk kd nn s hs
    have hlt2 := hM.lt
    have hlen := hM.len
    have hrec : ∀ G : Hp, G = C.set bm (.cells 1 3 [.int .i64 (wr (n + 1))]) → Cl (E3 fs pr) (.fn 60 []) [.lst (Br.avs t), .int .i64 (wr (d + 1)), .ptr bm 0] (G ++ [.cells 1 76 [.int .i64 kd, .int .i64 nn, .str s, .bool j, .lst (Br.avs t)]]) (.bool (mayT q (wr (d + 1)) t (wr (n + 1))).1) (G.set bm (.cells 1 3 [.int .i64 (mayT q (wr (d + 1)) t (wr (n + 1))).2]) ++ [.cells 1 76 [.int .i64 kd, .int .i64 nn, .str s, .bool j, .lst (Br.avs t)]]) := by
      rintro G rfl
      have hM2 := (hM.set (wr (n + 1))).app [.cells 1 76 [.int .i64 kd, .int .i64 nn, .str s, .bool j, .lst (Br.avs t)]] rfl
      have := ih k kd nn s j t hx (wr (d + 1)) (wr (n + 1)) _ bm hM2.at_ hM2.low
      rwa [List.set_append_left _ _ (by rw [List.length_set]; omega)] at this
    have hat := hM.at_
    obtain ⟨cl, hcl⟩ : ∃ cl, C.length = cl := ⟨_, rfl⟩
    clear ih hx hlt2 hchk hsm
    rw [← List.append_nil C]
    refine Rk.adv 6 (by kernel_rfl) ?_
    refine Rk.know p49 (decide (Int.ofNat k < Int.ofNat (List.length (Lf.avs ls)))) true (by kernel_rfl) hlt ?_
    refine Rk.adv 6 (by kernel_rfl) ?_
    refine Rk.iaddr (l := Lf.avs ls) (n := k) (c := [AV.int IntKind.i64 kd, AV.int IntKind.i64 nn, AV.str s, AV.bool j, AV.lst (Br.avs t)]) (es := 5) (by kernel_rfl) hl (by kernel_rfl) ?_
    refine Rk.adv 1 (by kernel_rfl) ?_
    refine Rk.alloc hcl (H := C) (L := []) (ty := 76) (z := [AV.int IntKind.i64 0, AV.int IntKind.i64 0, AV.str [], AV.bool false, AV.nils]) 0 (by kernel_rfl) (by kernel_rfl) (by kernel_rfl) ?_
    refine Rk.store hcl (H := C) (L := [Blk.cells 1 76 [AV.int IntKind.i64 0, AV.int IntKind.i64 0, AV.str [], AV.bool false, AV.nils]]) (n := 5) (j := 0) (o := 0) (ty := 76) (cs := [AV.int IntKind.i64 0, AV.int IntKind.i64 0, AV.str [], AV.bool false, AV.nils]) (v := AV.agg [AV.int IntKind.i64 kd, AV.int IntKind.i64 nn, AV.str s, AV.bool j, AV.lst (Br.avs t)]) (by kernel_rfl) (by kernel_rfl) (by kernel_rfl) (by kernel_rfl) ?_
    refine Rk.adv 5 (by kernel_rfl) ?_
    refine Rk.loadE hat (L := [Blk.cells 1 76 [AV.int IntKind.i64 kd, AV.int IntKind.i64 nn, AV.str s, AV.bool j, AV.lst (Br.avs t)]]) (n := 1) (ag := false) (o := 0) (v := AV.int IntKind.i64 n) (by kernel_rfl) (by kernel_rfl) (by kernel_rfl) ?_
    refine Rk.adv 2 (by kernel_rfl) ?_
    refine Rk.storeE hcl hat (L := [Blk.cells 1 76 [AV.int IntKind.i64 kd, AV.int IntKind.i64 nn, AV.str s, AV.bool j, AV.lst (Br.avs t)]]) (n := 1) (o := 0) (v := AV.int IntKind.i64 (IntKind.wrap IntKind.i64 (n + 1))) ([AV.int IntKind.i64 (IntKind.wrap IntKind.i64 (n + 1))]) (by kernel_rfl) (by kernel_rfl) (by kernel_rfl) (by kernel_rfl) fun G1 hl1 he1 hb1 ho1 => ?_
    refine Rk.adv 5 (by kernel_rfl) ?_
    refine Rk.loadE hb1 (L := [Blk.cells 1 76 [AV.int IntKind.i64 kd, AV.int IntKind.i64 nn, AV.str s, AV.bool j, AV.lst (Br.avs t)]]) (n := 1) (ag := false) (o := 0) (v := AV.int IntKind.i64 (IntKind.wrap IntKind.i64 (n + 1))) (by kernel_rfl) (by kernel_rfl) (by kernel_rfl) ?_
    refine Rk.adv 2 (by kernel_rfl) ?_
    refine Rk.split p61 (decide (1000 < IntKind.wrap IntKind.i64 (n + 1))) (by kernel_rfl) (fun h2 => ?_) (fun h2 => ?_)
    · refine Rk.adv 45 (by kernel_rfl) ?_
      -- FIN
      refine Rk.doneK F60 .ret (G1 ++ [Blk.cells 1 76 [AV.int IntKind.i64 kd, AV.int IntKind.i64 nn, AV.str s, AV.bool j, AV.lst (Br.avs t)]]) [(p6, .bool false)] [] (by kernel_rfl) (by kernel_rfl) (by kernel_rfl) (by kernel_rfl) (by kernel_rfl) (by kernel_rfl) ?_
      intro f1 hk1 _
      first
        | (have hm : mayLs q d (ls.drop k) n = (false, wr (n + 1)) := by clear hi hk hc hrec hM hat hcl hl1 he1 hb1 ho1 hk1 hl; rw [hd]; rcases hq : mayT q (wr (d + 1)) t (wr (n + 1)) with ⟨_ | _, n2⟩ <;> cases j <;> simp_all [mayLs, Br.len, wr, -Int.not_lt]); rw [hm, he1]; exact ⟨(hM.set _).app _ rfl, .inr ⟨rfl, rfl, hk1⟩⟩
        | (have hm : mayLs q d (ls.drop k) n = (false, (mayT q (wr (d + 1)) t (wr (n + 1))).2) := by clear hi hk hc hrec hM hat hcl hl1 he1 hb1 ho1 hk1 hl; rw [hd]; rcases hq : mayT q (wr (d + 1)) t (wr (n + 1)) with ⟨_ | _, n2⟩ <;> cases j <;> simp_all [mayLs, Br.len, wr, -Int.not_lt]); rw [hm, he1]; exact ⟨((hM.set _).set _).app _ rfl, .inr ⟨rfl, rfl, hk1⟩⟩
    · refine Rk.adv 1 (by kernel_rfl) ?_
      refine Rk.load hl1 (H := G1) (L := [Blk.cells 1 76 [AV.int IntKind.i64 kd, AV.int IntKind.i64 nn, AV.str s, AV.bool j, AV.lst (Br.avs t)]]) (n := 3) (ag := true) (j := 0) (o := 0) (st := 1) (ty := 76) (cs := [AV.int IntKind.i64 kd, AV.int IntKind.i64 nn, AV.str s, AV.bool j, AV.lst (Br.avs t)]) (v := AV.agg [AV.int IntKind.i64 kd, AV.int IntKind.i64 nn, AV.str s]) (by kernel_rfl) (by kernel_rfl) (by kernel_rfl) (by kernel_rfl) ?_
      refine Rk.callH (H := G1 ++ [Blk.cells 1 76 [AV.int IntKind.i64 kd, AV.int IntKind.i64 nn, AV.str s, AV.bool j, AV.lst (Br.avs t)]]) (hH := by kernel_rfl) (as := [AV.agg [AV.int IntKind.i64 kd, AV.int IntKind.i64 nn, AV.str s]]) (by kernel_rfl) (hc _) ?_
      refine Rk.adv 3 (by kernel_rfl) ?_
      refine Rk.split p67 (!decide (Ck.chk q kd nn s = 0)) (by kernel_rfl) (fun h3 => ?_) (fun h3 => ?_)
      · refine Rk.adv 39 (by kernel_rfl) ?_
        -- FIN
        refine Rk.doneK F60 .ret (G1 ++ [Blk.cells 1 76 [AV.int IntKind.i64 kd, AV.int IntKind.i64 nn, AV.str s, AV.bool j, AV.lst (Br.avs t)]]) [(p6, .bool false)] [] (by kernel_rfl) (by kernel_rfl) (by kernel_rfl) (by kernel_rfl) (by kernel_rfl) (by kernel_rfl) ?_
        intro f1 hk1 _
        first
          | (have hm : mayLs q d (ls.drop k) n = (false, wr (n + 1)) := by clear hi hk hc hrec hM hat hcl hl1 he1 hb1 ho1 hk1 hl; rw [hd]; rcases hq : mayT q (wr (d + 1)) t (wr (n + 1)) with ⟨_ | _, n2⟩ <;> cases j <;> simp_all [mayLs, Br.len, wr, -Int.not_lt]); rw [hm, he1]; exact ⟨(hM.set _).app _ rfl, .inr ⟨rfl, rfl, hk1⟩⟩
          | (have hm : mayLs q d (ls.drop k) n = (false, (mayT q (wr (d + 1)) t (wr (n + 1))).2) := by clear hi hk hc hrec hM hat hcl hl1 he1 hb1 ho1 hk1 hl; rw [hd]; rcases hq : mayT q (wr (d + 1)) t (wr (n + 1)) with ⟨_ | _, n2⟩ <;> cases j <;> simp_all [mayLs, Br.len, wr, -Int.not_lt]); rw [hm, he1]; exact ⟨((hM.set _).set _).app _ rfl, .inr ⟨rfl, rfl, hk1⟩⟩
      · refine Rk.adv 1 (by kernel_rfl) ?_
        refine Rk.load hl1 (H := G1) (L := [Blk.cells 1 76 [AV.int IntKind.i64 kd, AV.int IntKind.i64 nn, AV.str s, AV.bool j, AV.lst (Br.avs t)]]) (n := 1) (ag := false) (j := 0) (o := 3) (st := 1) (ty := 76) (cs := [AV.int IntKind.i64 kd, AV.int IntKind.i64 nn, AV.str s, AV.bool j, AV.lst (Br.avs t)]) (v := AV.bool j) (by kernel_rfl) (by kernel_rfl) (by kernel_rfl) (by kernel_rfl) ?_
        refine Rk.adv 2 (by kernel_rfl) ?_
        refine Rk.split p71 (!j) (by kernel_rfl) (fun h4 => ?_) (fun h4 => ?_)
        · refine Rk.adv 1 (by kernel_rfl) ?_
          refine Rk.load hl1 (H := G1) (L := [Blk.cells 1 76 [AV.int IntKind.i64 kd, AV.int IntKind.i64 nn, AV.str s, AV.bool j, AV.lst (Br.avs t)]]) (n := 1) (ag := false) (j := 0) (o := 4) (st := 1) (ty := 76) (cs := [AV.int IntKind.i64 kd, AV.int IntKind.i64 nn, AV.str s, AV.bool j, AV.lst (Br.avs t)]) (v := AV.lst (Br.avs t)) (by kernel_rfl) (by kernel_rfl) (by kernel_rfl) (by kernel_rfl) ?_
          refine Rk.adv 5 (by kernel_rfl) ?_
          refine Rk.split p78 (decide (0 < (↑(List.length (Br.avs t)) : Int))) (by kernel_rfl) (fun h5 => ?_) (fun h5 => ?_)
          · refine Rk.adv 28 (by kernel_rfl) ?_
            -- FIN
            refine Rk.doneK F60 .ret (G1 ++ [Blk.cells 1 76 [AV.int IntKind.i64 kd, AV.int IntKind.i64 nn, AV.str s, AV.bool j, AV.lst (Br.avs t)]]) [(p6, .bool false)] [] (by kernel_rfl) (by kernel_rfl) (by kernel_rfl) (by kernel_rfl) (by kernel_rfl) (by kernel_rfl) ?_
            intro f1 hk1 _
            first
              | (have hm : mayLs q d (ls.drop k) n = (false, wr (n + 1)) := by clear hi hk hc hrec hM hat hcl hl1 he1 hb1 ho1 hk1 hl; rw [hd]; rcases hq : mayT q (wr (d + 1)) t (wr (n + 1)) with ⟨_ | _, n2⟩ <;> cases j <;> simp_all [mayLs, Br.len, wr, -Int.not_lt]); rw [hm, he1]; exact ⟨(hM.set _).app _ rfl, .inr ⟨rfl, rfl, hk1⟩⟩
              | (have hm : mayLs q d (ls.drop k) n = (false, (mayT q (wr (d + 1)) t (wr (n + 1))).2) := by clear hi hk hc hrec hM hat hcl hl1 he1 hb1 ho1 hk1 hl; rw [hd]; rcases hq : mayT q (wr (d + 1)) t (wr (n + 1)) with ⟨_ | _, n2⟩ <;> cases j <;> simp_all [mayLs, Br.len, wr, -Int.not_lt]); rw [hm, he1]; exact ⟨((hM.set _).set _).app _ rfl, .inr ⟨rfl, rfl, hk1⟩⟩
          · refine Rk.adv 1 (by kernel_rfl) ?_
            refine Rk.load hl1 (H := G1) (L := [Blk.cells 1 76 [AV.int IntKind.i64 kd, AV.int IntKind.i64 nn, AV.str s, AV.bool j, AV.lst (Br.avs t)]]) (n := 1) (ag := false) (j := 0) (o := 3) (st := 1) (ty := 76) (cs := [AV.int IntKind.i64 kd, AV.int IntKind.i64 nn, AV.str s, AV.bool j, AV.lst (Br.avs t)]) (v := AV.bool j) (by kernel_rfl) (by kernel_rfl) (by kernel_rfl) (by kernel_rfl) ?_
            refine Rk.adv 1 (by kernel_rfl) ?_
            refine Rk.split p81 (j) (by kernel_rfl) (fun h6 => ?_) (fun h6 => ?_)
            · refine Rk.adv 2 (by kernel_rfl) ?_
              refine Rk.load hl1 (H := G1) (L := [Blk.cells 1 76 [AV.int IntKind.i64 kd, AV.int IntKind.i64 nn, AV.str s, AV.bool j, AV.lst (Br.avs t)]]) (n := 1) (ag := false) (j := 0) (o := 0) (st := 1) (ty := 76) (cs := [AV.int IntKind.i64 kd, AV.int IntKind.i64 nn, AV.str s, AV.bool j, AV.lst (Br.avs t)]) (v := AV.int IntKind.i64 kd) (by kernel_rfl) (by kernel_rfl) (by kernel_rfl) (by kernel_rfl) ?_
              refine Rk.adv 2 (by kernel_rfl) ?_
              refine Rk.split p86 (!decide (kd = 5)) (by kernel_rfl) (fun h7 => ?_) (fun h7 => ?_)
              · refine Rk.adv 20 (by kernel_rfl) ?_
                -- FIN
                refine Rk.doneK F60 .ret (G1 ++ [Blk.cells 1 76 [AV.int IntKind.i64 kd, AV.int IntKind.i64 nn, AV.str s, AV.bool j, AV.lst (Br.avs t)]]) [(p6, .bool false)] [] (by kernel_rfl) (by kernel_rfl) (by kernel_rfl) (by kernel_rfl) (by kernel_rfl) (by kernel_rfl) ?_
                intro f1 hk1 _
                first
                  | (have hm : mayLs q d (ls.drop k) n = (false, wr (n + 1)) := by clear hi hk hc hrec hM hat hcl hl1 he1 hb1 ho1 hk1 hl; rw [hd]; rcases hq : mayT q (wr (d + 1)) t (wr (n + 1)) with ⟨_ | _, n2⟩ <;> cases j <;> simp_all [mayLs, Br.len, wr, -Int.not_lt]); rw [hm, he1]; exact ⟨(hM.set _).app _ rfl, .inr ⟨rfl, rfl, hk1⟩⟩
                  | (have hm : mayLs q d (ls.drop k) n = (false, (mayT q (wr (d + 1)) t (wr (n + 1))).2) := by clear hi hk hc hrec hM hat hcl hl1 he1 hb1 ho1 hk1 hl; rw [hd]; rcases hq : mayT q (wr (d + 1)) t (wr (n + 1)) with ⟨_ | _, n2⟩ <;> cases j <;> simp_all [mayLs, Br.len, wr, -Int.not_lt]); rw [hm, he1]; exact ⟨((hM.set _).set _).app _ rfl, .inr ⟨rfl, rfl, hk1⟩⟩
              · refine Rk.adv 1 (by kernel_rfl) ?_
                refine Rk.load hl1 (H := G1) (L := [Blk.cells 1 76 [AV.int IntKind.i64 kd, AV.int IntKind.i64 nn, AV.str s, AV.bool j, AV.lst (Br.avs t)]]) (n := 1) (ag := false) (j := 0) (o := 4) (st := 1) (ty := 76) (cs := [AV.int IntKind.i64 kd, AV.int IntKind.i64 nn, AV.str s, AV.bool j, AV.lst (Br.avs t)]) (v := AV.lst (Br.avs t)) (by kernel_rfl) (by kernel_rfl) (by kernel_rfl) (by kernel_rfl) ?_
                refine Rk.adv 3 (by kernel_rfl) ?_
                refine Rk.callH (H := G1 ++ [Blk.cells 1 76 [AV.int IntKind.i64 kd, AV.int IntKind.i64 nn, AV.str s, AV.bool j, AV.lst (Br.avs t)]]) (hH := by kernel_rfl) (as := [AV.lst (Br.avs t), AV.int IntKind.i64 (IntKind.wrap IntKind.i64 (d + 1)), AV.ptr bm 0]) (by kernel_rfl) (hrec _ he1) ?_
                refine Rk.adv 5 (by kernel_rfl) ?_
                refine Rk.split p96 (!Prod.fst (mayT q (wr (d + 1)) t (wr (n + 1)))) (by kernel_rfl) (fun h8 => ?_) (fun h8 => ?_)
                · refine Rk.adv 9 (by kernel_rfl) ?_
                  -- FIN
                  refine Rk.doneK F60 .ret (List.set G1 bm (Blk.cells 1 3 [AV.int IntKind.i64 (Prod.snd (mayT q (wr (d + 1)) t (wr (n + 1))))]) ++
                    [Blk.cells 1 76 [AV.int IntKind.i64 kd, AV.int IntKind.i64 nn, AV.str s, AV.bool j, AV.lst (Br.avs t)]]) [(p6, .bool false)] [] (by kernel_rfl) (by kernel_rfl) (by kernel_rfl) (by kernel_rfl) (by kernel_rfl) (by kernel_rfl) ?_
                  intro f1 hk1 _
                  first
                    | (have hm : mayLs q d (ls.drop k) n = (false, wr (n + 1)) := by clear hi hk hc hrec hM hat hcl hl1 he1 hb1 ho1 hk1 hl; rw [hd]; rcases hq : mayT q (wr (d + 1)) t (wr (n + 1)) with ⟨_ | _, n2⟩ <;> cases j <;> simp_all [mayLs, Br.len, wr, -Int.not_lt]); rw [hm, he1]; exact ⟨(hM.set _).app _ rfl, .inr ⟨rfl, rfl, hk1⟩⟩
                    | (have hm : mayLs q d (ls.drop k) n = (false, (mayT q (wr (d + 1)) t (wr (n + 1))).2) := by clear hi hk hc hrec hM hat hcl hl1 he1 hb1 ho1 hk1 hl; rw [hd]; rcases hq : mayT q (wr (d + 1)) t (wr (n + 1)) with ⟨_ | _, n2⟩ <;> cases j <;> simp_all [mayLs, Br.len, wr, -Int.not_lt]); rw [hm, he1]; exact ⟨((hM.set _).set _).app _ rfl, .inr ⟨rfl, rfl, hk1⟩⟩
                · refine Rk.adv 7 (by kernel_rfl) ?_
                  -- LOOP
                  refine Rk.inc p48 k (by kernel_rfl) (by unfold mx63 at hls; omega) ?_
                  refine Rk.kn F60 [.code c60_15] (List.set G1 bm (Blk.cells 1 3 [AV.int IntKind.i64 (Prod.snd (mayT q (wr (d + 1)) t (wr (n + 1))))]) ++
                    [Blk.cells 1 76 [AV.int IntKind.i64 kd, AV.int IntKind.i64 nn, AV.str s, AV.bool j, AV.lst (Br.avs t)]]) [(p48, .int .i64 (Int.ofNat (k + 1))), (p46, .lst (Lf.avs ls)), (p47, .int .i64 (Int.ofNat (Lf.avs ls).length)), (p0, .lst (Br.avs ts)), (p1, .int .i64 d), (p2, .ptr bm 0), (p13, .lst (Br.avs ts)), (p14, .int .i64 (Int.ofNat (Br.avs ts).length)), (p15, .int .i64 (Int.ofNat i))] [] (by kernel_rfl) (by kernel_rfl) (by kernel_rfl) (by kernel_rfl) (by kernel_rfl) (by kernel_rfl) ?_
                  intro f1 hk1 _
                  first
                    | (have hm : mayLs q d (ls.drop k) n = mayLs q d (ls.drop (k + 1)) (wr (n + 1)) := by clear hi hk hc hrec hM hat hcl hl1 he1 hb1 ho1 hk1 hl; rw [hd]; rcases hq : mayT q (wr (d + 1)) t (wr (n + 1)) with ⟨_ | _, n2⟩ <;> cases j <;> simp_all [mayLs, Br.len, wr, -Int.not_lt]); rw [hm]; exact hi (k + 1) (by omega) _ f1 _ (by rw [he1]; exact (hM.set _).app _ rfl) hk1
                    | (have hm : mayLs q d (ls.drop k) n = mayLs q d (ls.drop (k + 1)) (mayT q (wr (d + 1)) t (wr (n + 1))).2 := by clear hi hk hc hrec hM hat hcl hl1 he1 hb1 ho1 hk1 hl; rw [hd]; rcases hq : mayT q (wr (d + 1)) t (wr (n + 1)) with ⟨_ | _, n2⟩ <;> cases j <;> simp_all [mayLs, Br.len, wr, -Int.not_lt]); rw [hm]; exact hi (k + 1) (by omega) _ f1 _ (by rw [he1]; exact ((hM.set _).set _).app _ rfl) hk1
            · refine Rk.adv 23 (by kernel_rfl) ?_
              -- LOOP
              refine Rk.inc p48 k (by kernel_rfl) (by unfold mx63 at hls; omega) ?_
              refine Rk.kn F60 [.code c60_15] (G1 ++ [Blk.cells 1 76 [AV.int IntKind.i64 kd, AV.int IntKind.i64 nn, AV.str s, AV.bool j, AV.lst (Br.avs t)]]) [(p48, .int .i64 (Int.ofNat (k + 1))), (p46, .lst (Lf.avs ls)), (p47, .int .i64 (Int.ofNat (Lf.avs ls).length)), (p0, .lst (Br.avs ts)), (p1, .int .i64 d), (p2, .ptr bm 0), (p13, .lst (Br.avs ts)), (p14, .int .i64 (Int.ofNat (Br.avs ts).length)), (p15, .int .i64 (Int.ofNat i))] [] (by kernel_rfl) (by kernel_rfl) (by kernel_rfl) (by kernel_rfl) (by kernel_rfl) (by kernel_rfl) ?_
              intro f1 hk1 _
              first
                | (have hm : mayLs q d (ls.drop k) n = mayLs q d (ls.drop (k + 1)) (wr (n + 1)) := by clear hi hk hc hrec hM hat hcl hl1 he1 hb1 ho1 hk1 hl; rw [hd]; rcases hq : mayT q (wr (d + 1)) t (wr (n + 1)) with ⟨_ | _, n2⟩ <;> cases j <;> simp_all [mayLs, Br.len, wr, -Int.not_lt]); rw [hm]; exact hi (k + 1) (by omega) _ f1 _ (by rw [he1]; exact (hM.set _).app _ rfl) hk1
                | (have hm : mayLs q d (ls.drop k) n = mayLs q d (ls.drop (k + 1)) (mayT q (wr (d + 1)) t (wr (n + 1))).2 := by clear hi hk hc hrec hM hat hcl hl1 he1 hb1 ho1 hk1 hl; rw [hd]; rcases hq : mayT q (wr (d + 1)) t (wr (n + 1)) with ⟨_ | _, n2⟩ <;> cases j <;> simp_all [mayLs, Br.len, wr, -Int.not_lt]); rw [hm]; exact hi (k + 1) (by omega) _ f1 _ (by rw [he1]; exact ((hM.set _).set _).app _ rfl) hk1
        · refine Rk.adv 8 (by kernel_rfl) ?_
          refine Rk.load hl1 (H := G1) (L := [Blk.cells 1 76 [AV.int IntKind.i64 kd, AV.int IntKind.i64 nn, AV.str s, AV.bool j, AV.lst (Br.avs t)]]) (n := 1) (ag := false) (j := 0) (o := 3) (st := 1) (ty := 76) (cs := [AV.int IntKind.i64 kd, AV.int IntKind.i64 nn, AV.str s, AV.bool j, AV.lst (Br.avs t)]) (v := AV.bool j) (by kernel_rfl) (by kernel_rfl) (by kernel_rfl) (by kernel_rfl) ?_
          refine Rk.adv 1 (by kernel_rfl) ?_
          refine Rk.split p81 (j) (by kernel_rfl) (fun h5 => ?_) (fun h5 => ?_)
          · refine Rk.adv 2 (by kernel_rfl) ?_
            refine Rk.load hl1 (H := G1) (L := [Blk.cells 1 76 [AV.int IntKind.i64 kd, AV.int IntKind.i64 nn, AV.str s, AV.bool j, AV.lst (Br.avs t)]]) (n := 1) (ag := false) (j := 0) (o := 0) (st := 1) (ty := 76) (cs := [AV.int IntKind.i64 kd, AV.int IntKind.i64 nn, AV.str s, AV.bool j, AV.lst (Br.avs t)]) (v := AV.int IntKind.i64 kd) (by kernel_rfl) (by kernel_rfl) (by kernel_rfl) (by kernel_rfl) ?_
            refine Rk.adv 2 (by kernel_rfl) ?_
            refine Rk.split p86 (!decide (kd = 5)) (by kernel_rfl) (fun h6 => ?_) (fun h6 => ?_)
            · refine Rk.adv 20 (by kernel_rfl) ?_
              -- FIN
              refine Rk.doneK F60 .ret (G1 ++ [Blk.cells 1 76 [AV.int IntKind.i64 kd, AV.int IntKind.i64 nn, AV.str s, AV.bool j, AV.lst (Br.avs t)]]) [(p6, .bool false)] [] (by kernel_rfl) (by kernel_rfl) (by kernel_rfl) (by kernel_rfl) (by kernel_rfl) (by kernel_rfl) ?_
              intro f1 hk1 _
              first
                | (have hm : mayLs q d (ls.drop k) n = (false, wr (n + 1)) := by clear hi hk hc hrec hM hat hcl hl1 he1 hb1 ho1 hk1 hl; rw [hd]; rcases hq : mayT q (wr (d + 1)) t (wr (n + 1)) with ⟨_ | _, n2⟩ <;> cases j <;> simp_all [mayLs, Br.len, wr, -Int.not_lt]); rw [hm, he1]; exact ⟨(hM.set _).app _ rfl, .inr ⟨rfl, rfl, hk1⟩⟩
                | (have hm : mayLs q d (ls.drop k) n = (false, (mayT q (wr (d + 1)) t (wr (n + 1))).2) := by clear hi hk hc hrec hM hat hcl hl1 he1 hb1 ho1 hk1 hl; rw [hd]; rcases hq : mayT q (wr (d + 1)) t (wr (n + 1)) with ⟨_ | _, n2⟩ <;> cases j <;> simp_all [mayLs, Br.len, wr, -Int.not_lt]); rw [hm, he1]; exact ⟨((hM.set _).set _).app _ rfl, .inr ⟨rfl, rfl, hk1⟩⟩
            · refine Rk.adv 1 (by kernel_rfl) ?_
              refine Rk.load hl1 (H := G1) (L := [Blk.cells 1 76 [AV.int IntKind.i64 kd, AV.int IntKind.i64 nn, AV.str s, AV.bool j, AV.lst (Br.avs t)]]) (n := 1) (ag := false) (j := 0) (o := 4) (st := 1) (ty := 76) (cs := [AV.int IntKind.i64 kd, AV.int IntKind.i64 nn, AV.str s, AV.bool j, AV.lst (Br.avs t)]) (v := AV.lst (Br.avs t)) (by kernel_rfl) (by kernel_rfl) (by kernel_rfl) (by kernel_rfl) ?_
              refine Rk.adv 3 (by kernel_rfl) ?_
              refine Rk.callH (H := G1 ++ [Blk.cells 1 76 [AV.int IntKind.i64 kd, AV.int IntKind.i64 nn, AV.str s, AV.bool j, AV.lst (Br.avs t)]]) (hH := by kernel_rfl) (as := [AV.lst (Br.avs t), AV.int IntKind.i64 (IntKind.wrap IntKind.i64 (d + 1)), AV.ptr bm 0]) (by kernel_rfl) (hrec _ he1) ?_
              refine Rk.adv 5 (by kernel_rfl) ?_
              refine Rk.split p96 (!Prod.fst (mayT q (wr (d + 1)) t (wr (n + 1)))) (by kernel_rfl) (fun h7 => ?_) (fun h7 => ?_)
              · refine Rk.adv 9 (by kernel_rfl) ?_
                -- FIN
                refine Rk.doneK F60 .ret (List.set G1 bm (Blk.cells 1 3 [AV.int IntKind.i64 (Prod.snd (mayT q (wr (d + 1)) t (wr (n + 1))))]) ++
                  [Blk.cells 1 76 [AV.int IntKind.i64 kd, AV.int IntKind.i64 nn, AV.str s, AV.bool j, AV.lst (Br.avs t)]]) [(p6, .bool false)] [] (by kernel_rfl) (by kernel_rfl) (by kernel_rfl) (by kernel_rfl) (by kernel_rfl) (by kernel_rfl) ?_
                intro f1 hk1 _
                first
                  | (have hm : mayLs q d (ls.drop k) n = (false, wr (n + 1)) := by clear hi hk hc hrec hM hat hcl hl1 he1 hb1 ho1 hk1 hl; rw [hd]; rcases hq : mayT q (wr (d + 1)) t (wr (n + 1)) with ⟨_ | _, n2⟩ <;> cases j <;> simp_all [mayLs, Br.len, wr, -Int.not_lt]); rw [hm, he1]; exact ⟨(hM.set _).app _ rfl, .inr ⟨rfl, rfl, hk1⟩⟩
                  | (have hm : mayLs q d (ls.drop k) n = (false, (mayT q (wr (d + 1)) t (wr (n + 1))).2) := by clear hi hk hc hrec hM hat hcl hl1 he1 hb1 ho1 hk1 hl; rw [hd]; rcases hq : mayT q (wr (d + 1)) t (wr (n + 1)) with ⟨_ | _, n2⟩ <;> cases j <;> simp_all [mayLs, Br.len, wr, -Int.not_lt]); rw [hm, he1]; exact ⟨((hM.set _).set _).app _ rfl, .inr ⟨rfl, rfl, hk1⟩⟩
              · refine Rk.adv 7 (by kernel_rfl) ?_
                -- LOOP
                refine Rk.inc p48 k (by kernel_rfl) (by unfold mx63 at hls; omega) ?_
                refine Rk.kn F60 [.code c60_15] (List.set G1 bm (Blk.cells 1 3 [AV.int IntKind.i64 (Prod.snd (mayT q (wr (d + 1)) t (wr (n + 1))))]) ++
                  [Blk.cells 1 76 [AV.int IntKind.i64 kd, AV.int IntKind.i64 nn, AV.str s, AV.bool j, AV.lst (Br.avs t)]]) [(p48, .int .i64 (Int.ofNat (k + 1))), (p46, .lst (Lf.avs ls)), (p47, .int .i64 (Int.ofNat (Lf.avs ls).length)), (p0, .lst (Br.avs ts)), (p1, .int .i64 d), (p2, .ptr bm 0), (p13, .lst (Br.avs ts)), (p14, .int .i64 (Int.ofNat (Br.avs ts).length)), (p15, .int .i64 (Int.ofNat i))] [] (by kernel_rfl) (by kernel_rfl) (by kernel_rfl) (by kernel_rfl) (by kernel_rfl) (by kernel_rfl) ?_
                intro f1 hk1 _
                first
                  | (have hm : mayLs q d (ls.drop k) n = mayLs q d (ls.drop (k + 1)) (wr (n + 1)) := by clear hi hk hc hrec hM hat hcl hl1 he1 hb1 ho1 hk1 hl; rw [hd]; rcases hq : mayT q (wr (d + 1)) t (wr (n + 1)) with ⟨_ | _, n2⟩ <;> cases j <;> simp_all [mayLs, Br.len, wr, -Int.not_lt]); rw [hm]; exact hi (k + 1) (by omega) _ f1 _ (by rw [he1]; exact (hM.set _).app _ rfl) hk1
                  | (have hm : mayLs q d (ls.drop k) n = mayLs q d (ls.drop (k + 1)) (mayT q (wr (d + 1)) t (wr (n + 1))).2 := by clear hi hk hc hrec hM hat hcl hl1 he1 hb1 ho1 hk1 hl; rw [hd]; rcases hq : mayT q (wr (d + 1)) t (wr (n + 1)) with ⟨_ | _, n2⟩ <;> cases j <;> simp_all [mayLs, Br.len, wr, -Int.not_lt]); rw [hm]; exact hi (k + 1) (by omega) _ f1 _ (by rw [he1]; exact ((hM.set _).set _).app _ rfl) hk1
          · refine Rk.adv 23 (by kernel_rfl) ?_
            -- LOOP
            refine Rk.inc p48 k (by kernel_rfl) (by unfold mx63 at hls; omega) ?_
            refine Rk.kn F60 [.code c60_15] (G1 ++ [Blk.cells 1 76 [AV.int IntKind.i64 kd, AV.int IntKind.i64 nn, AV.str s, AV.bool j, AV.lst (Br.avs t)]]) [(p48, .int .i64 (Int.ofNat (k + 1))), (p46, .lst (Lf.avs ls)), (p47, .int .i64 (Int.ofNat (Lf.avs ls).length)), (p0, .lst (Br.avs ts)), (p1, .int .i64 d), (p2, .ptr bm 0), (p13, .lst (Br.avs ts)), (p14, .int .i64 (Int.ofNat (Br.avs ts).length)), (p15, .int .i64 (Int.ofNat i))] [] (by kernel_rfl) (by kernel_rfl) (by kernel_rfl) (by kernel_rfl) (by kernel_rfl) (by kernel_rfl) ?_
            intro f1 hk1 _
            first
              | (have hm : mayLs q d (ls.drop k) n = mayLs q d (ls.drop (k + 1)) (wr (n + 1)) := by clear hi hk hc hrec hM hat hcl hl1 he1 hb1 ho1 hk1 hl; rw [hd]; rcases hq : mayT q (wr (d + 1)) t (wr (n + 1)) with ⟨_ | _, n2⟩ <;> cases j <;> simp_all [mayLs, Br.len, wr, -Int.not_lt]); rw [hm]; exact hi (k + 1) (by omega) _ f1 _ (by rw [he1]; exact (hM.set _).app _ rfl) hk1
              | (have hm : mayLs q d (ls.drop k) n = mayLs q d (ls.drop (k + 1)) (mayT q (wr (d + 1)) t (wr (n + 1))).2 := by clear hi hk hc hrec hM hat hcl hl1 he1 hb1 ho1 hk1 hl; rw [hd]; rcases hq : mayT q (wr (d + 1)) t (wr (n + 1)) with ⟨_ | _, n2⟩ <;> cases j <;> simp_all [mayLs, Br.len, wr, -Int.not_lt]); rw [hm]; exact hi (k + 1) (by omega) _ f1 _ (by rw [he1]; exact ((hM.set _).set _).app _ rfl) hk1
def Cmp96 (E : Env) (q : Ck) : Prop := ∀ (x y : Br) (H : Hp), Cl E (.fn 96 []) [.agg x.av, .agg y.av] H (.int .i64 (q.cmp x y)) H
def prv (ts : List Br) : Nat → Option Br
  | 0 => none
  | i + 1 => ts[i]?
theorem wrap_pred (j : Nat) (h : j < 9223372036854775807) : IntKind.i64.wrap (Int.ofNat (j + 1) - 1) = Int.ofNat j := by
  simp only [IntKind.wrap, IntKind.bits, IntKind.signed]
  simp
  omega
set_option maxHeartbeats 4000000 in
theorem w60_out {fs : Nat → Option CF} {pr : Nat → List AV → Hp → Option (AV × Hp)} {q : Ck} (hchk : Chk97 (E3 fs pr) q) (hcmp : Cmp96 (E3 fs pr) q) {ts : List Br} {d : Int} {H0 : Hp} {bm : Nat} (hts : ts.length ≤ mx63) (hsm : Br.sms ts)
    (ih : ∀ (i : Nat) (a : List Nat) (b : Bool) (ls : List Lf) (k : Nat) (kd n : Int) (s : List Nat) (j : Bool) (t : List Br), ts[i]? = some (.mk a b ls) → ls[k]? = some (.mk kd n s j t) → Rec60 (E3 fs pr) q t) :
    ∀ (m i : Nat), ts.length - i = m → ∀ (n : Int) (f : Fr) (C : Hp), Mi H0 bm C n → Knows F60 f [(p15, .int .i64 (Int.ofNat i)), (p0, .lst (Br.avs ts)), (p1, .int .i64 d), (p2, .ptr bm 0), (p13, .lst (Br.avs ts)), (p14, .int .i64 (Int.ofNat (Br.avs ts).length))] →
    Rk (E3 fs pr) ⟨[.code c60_17], .norm, f, C⟩ (fun e f' H' => Mi H0 bm H' (mayBs q d (prv ts i) (ts.drop i) n).2 ∧ ((mayBs q d (prv ts i) (ts.drop i) n).1 = true ∧ e = .exit 0 ∧ Knows F60 f' [] ∨ (mayBs q d (prv ts i) (ts.drop i) n).1 = false ∧ e = .ret ∧ Knows F60 f' [(p6, .bool false)])) := by
  intro m
  induction m with
  | zero =>
    intro i hm n f C hM hk
    obtain ⟨g, rfl⟩ := hk.gen
    have hlt : decide (Int.ofNat i < Int.ofNat (Br.avs ts).length) = false := by rw [Br.len]; simp; omega
    have hd : ts.drop i = [] := List.drop_eq_nil_of_le (by omega)
    rw [hd]
    simp only [mayBs]
    refine Rk.adv 6 (by kernel_rfl) ?_
    refine Rk.know p16 (decide (Int.ofNat i < Int.ofNat (List.length (Br.avs ts)))) false (by kernel_rfl) hlt ?_
    refine Rk.adv 4 (by kernel_rfl) ?_
    -- FIN
    refine Rk.doneK F60 (.exit 0) C [] [] (by kernel_rfl) (by kernel_rfl) (by kernel_rfl) (by kernel_rfl) (by kernel_rfl) (by kernel_rfl) ?_
    intro f1 hk1 _
    exact ⟨hM, .inl ⟨trivial, rfl, hk1⟩⟩
  | succ m hi =>
    intro i hm n f C hM hk
    obtain ⟨g, rfl⟩ := hk.gen
    have hlt : decide (Int.ofNat i < Int.ofNat (Br.avs ts).length) = true := by rw [Br.len]; simp; omega
    obtain ⟨⟨a, b, ls⟩, hx⟩ : ∃ x, ts[i]? = some x := ⟨_, List.getElem?_eq_getElem (by omega)⟩
    have hb := Br.at hx
    have hd := drop_cons hx
    have hsx := Br.sms_at hsm hx
    have hc := hchk 7 0 a hsx.2.2
    have ihx := fun k kd n s j t => ih i a b ls k kd n s j t hx
    obtain ⟨cl, hcl⟩ : ∃ cl, C.length = cl := ⟨_, rfl⟩
    have rest : ∀ (f1 : Fr) (C1 : Hp), Mi H0 bm C1 n → mayBs q d (prv ts i) (ts.drop i) n = (match mayLs q d ls n with | (true, n') => mayBs q d (some (.mk a b ls)) (ts.drop (i + 1)) n' | (false, n') => (false, n')) →
        Knows F60 f1 [(p48, .int .i64 (Int.ofNat 0)), (p46, .lst (Lf.avs ls)), (p47, .int .i64 (Int.ofNat (Lf.avs ls).length)), (p0, .lst (Br.avs ts)), (p1, .int .i64 d), (p2, .ptr bm 0), (p13, .lst (Br.avs ts)), (p14, .int .i64 (Int.ofNat (Br.avs ts).length)), (p15, .int .i64 (Int.ofNat i))] →
        Rk (E3 fs pr) ⟨[.code c60_15, .blk 2, .blk 1, .code c60_16, .code c60_17], .norm, f1, C1⟩ (fun e f' H' => Mi H0 bm H' (mayBs q d (prv ts i) (ts.drop i) n).2 ∧ ((mayBs q d (prv ts i) (ts.drop i) n).1 = true ∧ e = .exit 0 ∧ Knows F60 f' [] ∨ (mayBs q d (prv ts i) (ts.drop i) n).1 = false ∧ e = .ret ∧ Knows F60 f' [(p6, .bool false)])) := by
      intro f1 C1 hM1 hq hk1
      refine Rk.trans (c := [.code c60_15]) (k := [.blk 2, .blk 1, .code c60_16, .code c60_17]) ((w60_in hchk hsx.1 hsx.2.1 ihx _ 0 rfl n f1 C1 hM1 hk1).weak ?_)
      rintro e f2 C2 ⟨hM2, h2⟩
      rw [List.drop_zero] at hM2 h2
      rw [hq]
      rcases hr : mayLs q d ls n with ⟨_ | _, n2⟩
      · rw [hr] at hM2 h2
        rcases h2 with ⟨h2, _⟩ | ⟨_, rfl, hk2⟩
        · cases h2
        obtain ⟨g2, rfl⟩ := hk2.gen
        refine Rk.adv 4 (by kernel_rfl) ?_
        -- FIN
        refine Rk.doneK F60 .ret C2 [(p6, .bool false)] [] (by kernel_rfl) (by kernel_rfl) (by kernel_rfl) (by kernel_rfl) (by kernel_rfl) (by kernel_rfl) ?_
        intro f3 hk3 _
        exact ⟨hM2, .inr ⟨rfl, rfl, hk3⟩⟩
      · rw [hr] at hM2 h2
        rcases h2 with ⟨_, rfl, hk2⟩ | ⟨h2, _⟩
        · obtain ⟨g2, rfl⟩ := hk2.gen
          have hpv : some (.mk a b ls) = prv ts (i + 1) := hx.symm
          simp only
          rw [hpv]
          refine Rk.adv 6 (by kernel_rfl) ?_
          -- LOOP
          refine Rk.inc p15 i (by kernel_rfl) (by unfold mx63 at hts; omega) ?_
          refine Rk.kn F60 [.code c60_17] C2 [(p15, .int .i64 (Int.ofNat (i + 1))), (p0, .lst (Br.avs ts)), (p1, .int .i64 d), (p2, .ptr bm 0), (p13, .lst (Br.avs ts)), (p14, .int .i64 (Int.ofNat (Br.avs ts).length))] [] (by kernel_rfl) (by kernel_rfl) (by kernel_rfl) (by kernel_rfl) (by kernel_rfl) (by kernel_rfl) ?_
          intro f3 hk3 _
          exact hi (i + 1) (by omega) n2 f3 C2 hM2 hk3
        · cases h2
    clear hchk ih ihx hi hsx
    rw [← List.append_nil C]
    cases i with
    | zero =>
      clear hcmp
      refine Rk.adv 6 (by kernel_rfl) ?_
      refine Rk.know p16 (decide (Int.ofNat 0 < Int.ofNat (List.length (Br.avs ts)))) true (by kernel_rfl) hlt ?_
      refine Rk.adv 7 (by kernel_rfl) ?_
      refine Rk.iaddr (l := Br.avs ts) (n := 0) (c := [AV.str a, AV.bool b, AV.lst (Lf.avs ls)]) (es := 3) (by kernel_rfl) hb (by kernel_rfl) ?_
      refine Rk.adv 1 (by kernel_rfl) ?_
      refine Rk.alloc hcl (H := C) (L := []) (ty := 74) (z := [AV.str [], AV.bool false, AV.nils]) 0 (by kernel_rfl) (by kernel_rfl) (by kernel_rfl) ?_
      refine Rk.adv 1 (by kernel_rfl) ?_
      refine Rk.store hcl (H := C) (L := [Blk.cells 1 74 [AV.str [], AV.bool false, AV.nils]]) (n := 3) (j := 0) (o := 0) (ty := 74) (cs := [AV.str [], AV.bool false, AV.nils]) (v := AV.agg [AV.str a, AV.bool b, AV.lst (Lf.avs ls)]) (by kernel_rfl) (by kernel_rfl) (by kernel_rfl) (by kernel_rfl) ?_
      refine Rk.adv 5 (by kernel_rfl) ?_
      refine Rk.load hcl (H := C) (L := [Blk.cells 1 74 [AV.str a, AV.bool b, AV.lst (Lf.avs ls)]]) (n := 1) (ag := false) (j := 0) (o := 2) (st := 1) (ty := 74) (cs := [AV.str a, AV.bool b, AV.lst (Lf.avs ls)]) (v := AV.lst (Lf.avs ls)) (by kernel_rfl) (by kernel_rfl) (by kernel_rfl) (by kernel_rfl) ?_
      refine Rk.adv 3 (by kernel_rfl) ?_
      refine Rk.split p24 (decide ((↑(List.length (Lf.avs ls)) : Int) = 0)) (by kernel_rfl) (fun h1 => ?_) (fun h1 => ?_)
      · refine Rk.adv 31 (by kernel_rfl) ?_
        -- FIN
        refine Rk.doneK F60 .ret (C ++ [Blk.cells 1 74 [AV.str a, AV.bool b, AV.lst (Lf.avs ls)]]) [(p6, .bool false)] [] (by kernel_rfl) (by kernel_rfl) (by kernel_rfl) (by kernel_rfl) (by kernel_rfl) (by kernel_rfl) ?_
        intro f1 hk1 _
        have hm : mayBs q d (prv ts 0) (ts.drop 0) n = (false, n) := by clear rest hk hc hM hcl hk1 hb; rw [hd]; clear hd; simp_all [mayBs, badCmp, prv, Lf.len, -Int.not_lt, -Int.not_le]
        rw [hm]
        exact ⟨hM.app _ rfl, .inr ⟨rfl, rfl, hk1⟩⟩
      · refine Rk.adv 1 (by kernel_rfl) ?_
        refine Rk.load hcl (H := C) (L := [Blk.cells 1 74 [AV.str a, AV.bool b, AV.lst (Lf.avs ls)]]) (n := 1) (ag := false) (j := 0) (o := 0) (st := 1) (ty := 74) (cs := [AV.str a, AV.bool b, AV.lst (Lf.avs ls)]) (v := AV.str a) (by kernel_rfl) (by kernel_rfl) (by kernel_rfl) (by kernel_rfl) ?_
        refine Rk.adv 1 (by kernel_rfl) ?_
        refine Rk.callH (H := C ++ [Blk.cells 1 74 [AV.str a, AV.bool b, AV.lst (Lf.avs ls)]]) (hH := by kernel_rfl) (as := [AV.agg [AV.int IntKind.i64 7, AV.int IntKind.i64 0, AV.str a]]) (by kernel_rfl) (hc _) ?_
        refine Rk.adv 3 (by kernel_rfl) ?_
        refine Rk.split p31 (!decide (Ck.chk q 7 0 a = 0)) (by kernel_rfl) (fun h2 => ?_) (fun h2 => ?_)
        · refine Rk.adv 24 (by kernel_rfl) ?_
          -- FIN
          refine Rk.doneK F60 .ret (C ++ [Blk.cells 1 74 [AV.str a, AV.bool b, AV.lst (Lf.avs ls)]]) [(p6, .bool false)] [] (by kernel_rfl) (by kernel_rfl) (by kernel_rfl) (by kernel_rfl) (by kernel_rfl) (by kernel_rfl) ?_
          intro f1 hk1 _
          have hm : mayBs q d (prv ts 0) (ts.drop 0) n = (false, n) := by clear rest hk hc hM hcl hk1 hb; rw [hd]; clear hd; simp_all [mayBs, badCmp, prv, Lf.len, -Int.not_lt, -Int.not_le]
          rw [hm]
          exact ⟨hM.app _ rfl, .inr ⟨rfl, rfl, hk1⟩⟩
        · refine Rk.adv 19 (by kernel_rfl) ?_
          refine Rk.load hcl (H := C) (L := [Blk.cells 1 74 [AV.str a, AV.bool b, AV.lst (Lf.avs ls)]]) (n := 1) (ag := false) (j := 0) (o := 2) (st := 1) (ty := 74) (cs := [AV.str a, AV.bool b, AV.lst (Lf.avs ls)]) (v := AV.lst (Lf.avs ls)) (by kernel_rfl) (by kernel_rfl) (by kernel_rfl) (by kernel_rfl) ?_
          refine Rk.adv 4 (by kernel_rfl) ?_
          -- LOOP
          refine Rk.kn F60 [.code c60_15, .blk 2, .blk 1, .code c60_16, .code c60_17] (C ++ [Blk.cells 1 74 [AV.str a, AV.bool b, AV.lst (Lf.avs ls)]]) [(p48, .int .i64 (Int.ofNat 0)), (p46, .lst (Lf.avs ls)), (p47, .int .i64 (Int.ofNat (Lf.avs ls).length)), (p0, .lst (Br.avs ts)), (p1, .int .i64 d), (p2, .ptr bm 0), (p13, .lst (Br.avs ts)), (p14, .int .i64 (Int.ofNat (Br.avs ts).length)), (p15, .int .i64 (Int.ofNat 0))] [] (by kernel_rfl) (by kernel_rfl) (by kernel_rfl) (by kernel_rfl) (by kernel_rfl) (by kernel_rfl) ?_
          intro f1 hk1 _
          refine rest f1 _ (hM.app _ rfl) ?_ hk1
          clear rest hk hc hM hcl hk1 hb; rw [hd]; clear hd; simp_all [mayBs, badCmp, prv, Lf.len, -Int.not_lt, -Int.not_le]; rcases mayLs q d ls n with ⟨_ | _, n2⟩ <;> rfl
    | succ j =>
      obtain ⟨⟨a', b', ls'⟩, hx'⟩ : ∃ x, ts[j]? = some x := ⟨_, List.getElem?_eq_getElem (by omega)⟩
      have hb' := Br.at hx'
      have hcm : ∀ H, Cl (E3 fs pr) (.fn 96 []) [.agg [.str a', .bool b', .lst (Lf.avs ls')], .agg [.str a, .bool b, .lst (Lf.avs ls)]] H (.int .i64 (q.cmp (.mk a' b' ls') (.mk a b ls))) H := hcmp (.mk a' b' ls') (.mk a b ls)
      have hpos : decide (0 < Int.ofNat (j + 1)) = true := by simp
      have hwp := wrap_pred j (by unfold mx63 at hts; omega)
      clear hcmp
      refine Rk.adv 6 (by kernel_rfl) ?_
      refine Rk.know p16 (decide (Int.ofNat (j + 1) < Int.ofNat (List.length (Br.avs ts)))) true (by kernel_rfl) hlt ?_
      refine Rk.adv 7 (by kernel_rfl) ?_
      refine Rk.iaddr (l := Br.avs ts) (n := j + 1) (c := [AV.str a, AV.bool b, AV.lst (Lf.avs ls)]) (es := 3) (by kernel_rfl) hb (by kernel_rfl) ?_
      refine Rk.adv 1 (by kernel_rfl) ?_
      refine Rk.alloc hcl (H := C) (L := []) (ty := 74) (z := [AV.str [], AV.bool false, AV.nils]) 0 (by kernel_rfl) (by kernel_rfl) (by kernel_rfl) ?_
      refine Rk.adv 1 (by kernel_rfl) ?_
      refine Rk.store hcl (H := C) (L := [Blk.cells 1 74 [AV.str [], AV.bool false, AV.nils]]) (n := 3) (j := 0) (o := 0) (ty := 74) (cs := [AV.str [], AV.bool false, AV.nils]) (v := AV.agg [AV.str a, AV.bool b, AV.lst (Lf.avs ls)]) (by kernel_rfl) (by kernel_rfl) (by kernel_rfl) (by kernel_rfl) ?_
      refine Rk.adv 5 (by kernel_rfl) ?_
      refine Rk.load hcl (H := C) (L := [Blk.cells 1 74 [AV.str a, AV.bool b, AV.lst (Lf.avs ls)]]) (n := 1) (ag := false) (j := 0) (o := 2) (st := 1) (ty := 74) (cs := [AV.str a, AV.bool b, AV.lst (Lf.avs ls)]) (v := AV.lst (Lf.avs ls)) (by kernel_rfl) (by kernel_rfl) (by kernel_rfl) (by kernel_rfl) ?_
      refine Rk.adv 3 (by kernel_rfl) ?_
      refine Rk.split p24 (decide ((↑(List.length (Lf.avs ls)) : Int) = 0)) (by kernel_rfl) (fun h1 => ?_) (fun h1 => ?_)
      · refine Rk.adv 31 (by kernel_rfl) ?_
        -- FIN
        refine Rk.doneK F60 .ret (C ++ [Blk.cells 1 74 [AV.str a, AV.bool b, AV.lst (Lf.avs ls)]]) [(p6, .bool false)] [] (by kernel_rfl) (by kernel_rfl) (by kernel_rfl) (by kernel_rfl) (by kernel_rfl) (by kernel_rfl) ?_
        intro f1 hk1 _
        have hm : mayBs q d (prv ts (j + 1)) (ts.drop (j + 1)) n = (false, n) := by clear rest hk hc hM hcl hk1 hb hb' hcm; rw [hd]; clear hd; simp_all [mayBs, badCmp, prv, Lf.len, -Int.not_lt, -Int.not_le]
        rw [hm]
        exact ⟨hM.app _ rfl, .inr ⟨rfl, rfl, hk1⟩⟩
      · refine Rk.adv 1 (by kernel_rfl) ?_
        refine Rk.load hcl (H := C) (L := [Blk.cells 1 74 [AV.str a, AV.bool b, AV.lst (Lf.avs ls)]]) (n := 1) (ag := false) (j := 0) (o := 0) (st := 1) (ty := 74) (cs := [AV.str a, AV.bool b, AV.lst (Lf.avs ls)]) (v := AV.str a) (by kernel_rfl) (by kernel_rfl) (by kernel_rfl) (by kernel_rfl) ?_
        refine Rk.adv 1 (by kernel_rfl) ?_
        refine Rk.callH (H := C ++ [Blk.cells 1 74 [AV.str a, AV.bool b, AV.lst (Lf.avs ls)]]) (hH := by kernel_rfl) (as := [AV.agg [AV.int IntKind.i64 7, AV.int IntKind.i64 0, AV.str a]]) (by kernel_rfl) (hc _) ?_
        refine Rk.adv 3 (by kernel_rfl) ?_
        refine Rk.split p31 (!decide (Ck.chk q 7 0 a = 0)) (by kernel_rfl) (fun h2 => ?_) (fun h2 => ?_)
        · refine Rk.adv 24 (by kernel_rfl) ?_
          -- FIN
          refine Rk.doneK F60 .ret (C ++ [Blk.cells 1 74 [AV.str a, AV.bool b, AV.lst (Lf.avs ls)]]) [(p6, .bool false)] [] (by kernel_rfl) (by kernel_rfl) (by kernel_rfl) (by kernel_rfl) (by kernel_rfl) (by kernel_rfl) ?_
          intro f1 hk1 _
          have hm : mayBs q d (prv ts (j + 1)) (ts.drop (j + 1)) n = (false, n) := by clear rest hk hc hM hcl hk1 hb hb' hcm; rw [hd]; clear hd; simp_all [mayBs, badCmp, prv, Lf.len, -Int.not_lt, -Int.not_le]
          rw [hm]
          exact ⟨hM.app _ rfl, .inr ⟨rfl, rfl, hk1⟩⟩
        · refine Rk.adv 3 (by kernel_rfl) ?_
          refine Rk.know p34 (decide (0 < Int.ofNat (j + 1))) true (by kernel_rfl) hpos ?_
          refine Rk.adv 3 (by kernel_rfl) ?_
          refine Rk.knowI p37 (IntKind.wrap IntKind.i64 (Int.ofNat (j + 1) - 1)) (Int.ofNat j) (by kernel_rfl) hwp ?_
          refine Rk.iaddr (l := Br.avs ts) (n := j) (c := [AV.str a', AV.bool b', AV.lst (Lf.avs ls')]) (es := 3) (by kernel_rfl) hb' (by kernel_rfl) ?_
          refine Rk.adv 1 (by kernel_rfl) ?_
          refine Rk.load hcl (H := C) (L := [Blk.cells 1 74 [AV.str a, AV.bool b, AV.lst (Lf.avs ls)]]) (n := 3) (ag := true) (j := 0) (o := 0) (st := 1) (ty := 74) (cs := [AV.str a, AV.bool b, AV.lst (Lf.avs ls)]) (v := AV.agg [AV.str a, AV.bool b, AV.lst (Lf.avs ls)]) (by kernel_rfl) (by kernel_rfl) (by kernel_rfl) (by kernel_rfl) ?_
          refine Rk.callH (H := C ++ [Blk.cells 1 74 [AV.str a, AV.bool b, AV.lst (Lf.avs ls)]]) (hH := by kernel_rfl) (as := [AV.agg [AV.str a', AV.bool b', AV.lst (Lf.avs ls')], AV.agg [AV.str a, AV.bool b, AV.lst (Lf.avs ls)]]) (by kernel_rfl) (hcm _) ?_
          refine Rk.adv 4 (by kernel_rfl) ?_
          refine Rk.split p44 (decide (0 ≤ Ck.cmp q (Br.mk a' b' ls') (Br.mk a b ls))) (by kernel_rfl) (fun h3 => ?_) (fun h3 => ?_)
          · refine Rk.adv 10 (by kernel_rfl) ?_
            -- FIN
            refine Rk.doneK F60 .ret (C ++ [Blk.cells 1 74 [AV.str a, AV.bool b, AV.lst (Lf.avs ls)]]) [(p6, .bool false)] [] (by kernel_rfl) (by kernel_rfl) (by kernel_rfl) (by kernel_rfl) (by kernel_rfl) (by kernel_rfl) ?_
            intro f1 hk1 _
            have hm : mayBs q d (prv ts (j + 1)) (ts.drop (j + 1)) n = (false, n) := by clear rest hk hc hM hcl hk1 hb hb' hcm; rw [hd]; clear hd; simp_all [mayBs, badCmp, prv, Lf.len, -Int.not_lt, -Int.not_le]
            rw [hm]
            exact ⟨hM.app _ rfl, .inr ⟨rfl, rfl, hk1⟩⟩
          · refine Rk.adv 5 (by kernel_rfl) ?_
            refine Rk.load hcl (H := C) (L := [Blk.cells 1 74 [AV.str a, AV.bool b, AV.lst (Lf.avs ls)]]) (n := 1) (ag := false) (j := 0) (o := 2) (st := 1) (ty := 74) (cs := [AV.str a, AV.bool b, AV.lst (Lf.avs ls)]) (v := AV.lst (Lf.avs ls)) (by kernel_rfl) (by kernel_rfl) (by kernel_rfl) (by kernel_rfl) ?_
            refine Rk.adv 4 (by kernel_rfl) ?_
            -- LOOP
            refine Rk.kn F60 [.code c60_15, .blk 2, .blk 1, .code c60_16, .code c60_17] (C ++ [Blk.cells 1 74 [AV.str a, AV.bool b, AV.lst (Lf.avs ls)]]) [(p48, .int .i64 (Int.ofNat 0)), (p46, .lst (Lf.avs ls)), (p47, .int .i64 (Int.ofNat (Lf.avs ls).length)), (p0, .lst (Br.avs ts)), (p1, .int .i64 d), (p2, .ptr bm 0), (p13, .lst (Br.avs ts)), (p14, .int .i64 (Int.ofNat (Br.avs ts).length)), (p15, .int .i64 (Int.ofNat (j + 1)))] [] (by kernel_rfl) (by kernel_rfl) (by kernel_rfl) (by kernel_rfl) (by kernel_rfl) (by kernel_rfl) ?_
            intro f1 hk1 _
            refine rest f1 _ (hM.app _ rfl) ?_ hk1
            clear rest hk hc hM hcl hk1 hb hb' hcm; rw [hd]; clear hd; simp_all [mayBs, badCmp, prv, Lf.len, -Int.not_lt, -Int.not_le]; rcases mayLs q d ls n with ⟨_ | _, n2⟩ <;> rfl
/-- What a call of it must end with. -/
def Q60 (H : Hp) (b : Nat) (r : Bool) (n : Int) : Ex → Fr → Hp → Prop := fun e f C => isEx e = false ∧ Mi H b C n ∧ f.get p6 = some (.bool r)
theorem w60_cl {E : Env} (hh : Has E 60 F60) {as : List AV} {H : Hp} {b : Nat} {r : Bool} {n : Int} (hs : setAll F60.params as (Tr.fillN (.tup []) F60.depth F60.np) = some (startF F60 as)) (h : Rk E (start F60 as H) (Q60 H b r n)) : Cl E (.fn 60 []) as H (.bool r) (H.set b (.cells 1 3 [.int .i64 n])) := by
  refine Cl.mode2 (F := F60) (f := startF F60 as) (hh.pr _ _) hh.fs rfl (by rw [List.append_nil]; exact hs) (h.weak ?_)
  rintro e f C ⟨he, hM, hf⟩
  obtain ⟨q1, q2⟩ := hM.fin
  refine ⟨isEx_spec he, q1, ⟨.bool r, 8, ?_, rfl⟩, q2⟩
  have : F60.results = [.t p6] := rfl
  simp only [this, evRes, optL, evRes1, hf, Option.map_some]
set_option maxHeartbeats 4000000 in
theorem w60_at {fs : Nat → Option CF} {pr : Nat → List AV → Hp → Option (AV × Hp)} {q : Ck} (hh : Has (E3 fs pr) 60 F60) (hchk : Chk97 (E3 fs pr) q) (hcmp : Cmp96 (E3 fs pr) q) (ts : List Br) (hts : ts.length ≤ mx63) (hsm : Br.sms ts)
    (ih : ∀ (i : Nat) (a : List Nat) (b : Bool) (ls : List Lf) (k : Nat) (kd n : Int) (s : List Nat) (j : Bool) (t : List Br), ts[i]? = some (.mk a b ls) → ls[k]? = some (.mk kd n s j t) → Rec60 (E3 fs pr) q t) : Rec60 (E3 fs pr) q ts := by
  intro d n H bm hat hlow
  have hM := Mi.start hat hlow
  refine w60_cl hh rfl ?_
  have hT : mayT q d ts n = if d > 20 then (false, n) else mayBs q d none ts n := by rw [mayT]
  have hlo := w60_out hchk hcmp (d := d) (H0 := H) (bm := bm) hts hsm ih _ 0 rfl n
  clear hchk hcmp ih
  refine Rk.adv 10 (by kernel_rfl) ?_
  refine Rk.split p12 (decide (20 < d)) (by kernel_rfl) (fun h1 => ?_) (fun h1 => ?_)
  · refine Rk.adv 7 (by kernel_rfl) ?_
    -- FIN
    have hm : mayT q d ts n = (false, n) := by rw [hT, if_pos (by simpa using h1)]
    rw [hm]
    refine Rk.doneK F60 .ret H [(p6, .bool false)] [] (by kernel_rfl) (by kernel_rfl) (by kernel_rfl) (by kernel_rfl) (by kernel_rfl) (by kernel_rfl) ?_
    intro f1 hk1 _
    exact ⟨rfl, hM, hk1.2.1⟩
  · refine Rk.adv 10 (by kernel_rfl) ?_
    -- LOOP
    have hm : mayT q d ts n = mayBs q d none ts n := by rw [hT, if_neg (by simp at h1; omega)]
    rw [hm]
    refine Rk.kn F60 [.code c60_17, .blk 0, .code (.seq c60_18 .ret)] H [(p15, .int .i64 (Int.ofNat 0)), (p0, .lst (Br.avs ts)), (p1, .int .i64 d), (p2, .ptr bm 0), (p13, .lst (Br.avs ts)), (p14, .int .i64 (Int.ofNat (Br.avs ts).length))] [] (by kernel_rfl) (by kernel_rfl) (by kernel_rfl) (by kernel_rfl) (by kernel_rfl) (by kernel_rfl) ?_
    intro f1 hk1 _
    refine Rk.trans (c := [.code c60_17]) (k := [.blk 0, .code (.seq c60_18 .ret)]) ((hlo f1 H hM hk1).weak ?_)
    rintro e f2 C2 ⟨hM2, h2⟩
    rw [List.drop_zero] at hM2 h2
    have hp0 : prv ts 0 = none := rfl
    rw [hp0] at hM2 h2
    rcases h2 with ⟨h2, rfl, hk2⟩ | ⟨h2, rfl, hk2⟩
    · rw [h2]
      generalize (mayBs q d none ts n).2 = n2 at hM2 ⊢
      obtain ⟨g2, rfl⟩ := hk2.gen
      refine Rk.adv 6 (by kernel_rfl) ?_
      -- FIN
      refine Rk.doneK F60 .ret C2 [(p6, .bool true)] [] (by kernel_rfl) (by kernel_rfl) (by kernel_rfl) (by kernel_rfl) (by kernel_rfl) (by kernel_rfl) ?_
      intro f3 hk3 _
      exact ⟨rfl, hM2, hk3.2.1⟩
    · rw [h2]
      generalize (mayBs q d none ts n).2 = n2 at hM2 ⊢
      obtain ⟨g2, rfl⟩ := hk2.gen
      refine Rk.adv 2 (by kernel_rfl) ?_
      -- FIN
      refine Rk.doneK F60 .ret C2 [(p6, .bool false)] [] (by kernel_rfl) (by kernel_rfl) (by kernel_rfl) (by kernel_rfl) (by kernel_rfl) (by kernel_rfl) ?_
      intro f3 hk3 _
      exact ⟨rfl, hM2, hk3.2.1⟩
theorem w60 {fs : Nat → Option CF} {pr : Nat → List AV → Hp → Option (AV × Hp)} {q : Ck} (hh : Has (E3 fs pr) 60 F60) (hchk : Chk97 (E3 fs pr) q) (hcmp : Cmp96 (E3 fs pr) q) : ∀ (z : Nat) (ts : List Br), SizeOf.sizeOf ts < z → ts.length ≤ mx63 → Br.sms ts → Rec60 (E3 fs pr) q ts := by
  intro z
  induction z with
  | zero => intro ts h; omega
  | succ z hi =>
    intro ts h h1 h2
    exact w60_at hh hchk hcmp ts h1 h2 fun i a b ls k kd n s j t e1 e2 => by
      have q1 := Br.sms_at h2 e1
      have q2 := Lf.sms_at q1.2.1 e2
      have := sub_lt e1 e2
      exact hi t (by omega) q2.1 q2.2.1
end Go.EV
