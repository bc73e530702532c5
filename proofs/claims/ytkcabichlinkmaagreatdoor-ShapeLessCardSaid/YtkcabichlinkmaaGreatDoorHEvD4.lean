/- What the rows give; the told functions of this program; from the evaluator's answer to the row's. -/
import Derived.Test.YtkcabichlinkmaaGreatDoorRows
import Derived.Test.YtkcabichlinkmaaGreatDoorHM8
import Derived.Test.YtkcabichlinkmaaGreatDoorHEn1
import Derived.Test.YtkcabichlinkmaaGreatDoorHM7
import Derived.Test.YtkcabichlinkmaaGreatDoorHM6
import Derived.Lib.LaidU8
import Derived.LaidSub
import Derived.MakeChecks
import Derived.ProofKit
import Derived.OpenShut
import Derived.Deep.DeepHandedRow
import Derived.Deep.DeepWitnessRowRef
import Derived.Lib.LaidTab
import Derived.Lay
namespace Go.EV
open Go.RowKit Go.Proofs Go.Proofs.YtkcabichlinkmaaGreatDoor Go.ChangeShapes Go.WideShapes

/-! ## What is held from the start -/
def FbOf (W : World) (n : Nat) : Fz := fun c => if c < n then W.heap[c]? else none
theorem FbOf_heap {W w : World} {n : Nat} (h : Base (FbOf W n) w) {c : Nat} (hc : c < n) {o : Obj} (ho : W.heap[c]? = some o) : w.heap[c]? = some o := h c o (by unfold FbOf; rw [if_pos hc]; exact ho)
theorem FbOf_cell {W w : World} {n : Nat} (h : Base (FbOf W n) w) {a : Addr} {v : Value} (hn : a.block < n) (hc : W.cell? a = some v) : w.cell? a = some v := by
  unfold World.cell? at hc ⊢
  cases hb : W.heap[a.block]? with
  | none => rw [hb] at hc; cases hc
  | some o => rw [hb] at hc; rw [FbOf_heap h hn hb]; exact hc
theorem FbOf_var {W w : World} {n : Nat} (h : Base (FbOf W n) w) {P : Program} {nm : String} {g : Nat} (hg : P.globalNamed nm = some g) (hn : g < n) {cs : Array Value} (hc : W.var? P nm = some cs) : w.var? P nm = some cs := by
  unfold World.var? at hc ⊢
  rw [hg] at hc ⊢
  simp only [Option.bind_some] at hc ⊢
  cases hb : W.heap[g]? with
  | none => rw [hb] at hc; cases hc
  | some o => rw [hb] at hc; rw [FbOf_heap h hn hb]; exact hc

theorem iface_of_trod {H : Type} {enc : TypeId × Value → H} {P : Program} {w : World} {base : Nat} {sp : Nat → Bool} {fuel : Nat} {t : TypeId} {ms : Array (String × TypeId)} {cs : List Value} {nm : String} {d : DataW H} {p : List MemPlace} (ht : P.underlying t = some (.interface ms))
    (h : DataW.trod enc P w base sp false fuel t cs = some (.iface nm d, p)) : ∃ u v, cs = [.iface u v] := by
  cases fuel with
  | zero => simp [DataW.trod] at h
  | succ fuel =>
    simp only [DataW.trod, ht] at h
    split at h <;> first | (cases h; done) | (rename_i e _; cases e; done) | exact ⟨_, _, rfl⟩ | skip
    all_goals simp_all

structure Facts (W : World) : Prop where
  mx : ∃ m, W.cell? ⟨0, 0, none⟩ = some (.int .i64 m)
  sy : ∃ t x, W.cell? ⟨1, 0, none⟩ = some (.iface t x)
  ra : ∃ t x, W.cell? ⟨2, 0, none⟩ = some (.iface t x)
  tab : Lib.TabIs Tryz.prog W "internal/strconv.uint64pow10" .u64 Lib.pow10Tab

theorem Tryz.gMax : Tryz.prog.globalNamed "internal/bytealg.MaxLen" = some 0 := by kernel_rfl
theorem Tryz.gSyn : Tryz.prog.globalNamed "strconv.ErrSyntax" = some 1 := by kernel_rfl
theorem Tryz.gPow : Tryz.prog.globalNamed "internal/strconv.uint64pow10" = some 3 := by kernel_rfl
theorem Tryz.gRan : Tryz.prog.globalNamed "strconv.ErrRange" = some 2 := by kernel_rfl
theorem facts_of {W : World} (hsh : W.ShapedOpen Tryz.prog) (hL : laidMetH Tryz.prog Rows.shapeNamesRow.laid W) : Facts W := by
  rw [MakeChecks.laidMetH_plain _ _ _ (by kernel_rfl)] at hL
  have err : ∀ (n : String) (g t : Nat) (nm : String) (d : DataW Unit) (ms : Array (String × TypeId)), (n, .iface nm d) ∈ Rows.shapeNamesRow.laid → Tryz.prog.globalNamed n = some g → (Tryz.prog.globals[g]?).map (·.type) = some t → Tryz.prog.underlying t = some (.interface ms) → ∃ t x, W.cell? ⟨g, 0, none⟩ = some (.iface t x) := by
    intro n g t nm d ms hm hg ht hi
    obtain ⟨g', t', cs, fuel, p, h1, h2, h3, h4⟩ := Lib.laidMet.reads hL hm
    rw [hg] at h1; cases h1
    rw [ht] at h2; cases h2
    obtain ⟨u, v, e⟩ := iface_of_trod hi h4
    have := World.var?_cell hg h3 0
    exact ⟨u, v, by rw [this, ← Array.getElem?_toList, e]; rfl⟩
  refine ⟨Tryz.laysM143.s1_3 W hsh, err "strconv.ErrSyntax" 1 192 _ _ _ (List.mem_cons_of_mem _ (List.mem_cons_of_mem _ (List.mem_cons_of_mem _ (List.mem_cons_of_mem _ (List.mem_cons_self ..))))) Tryz.gSyn (by kernel_rfl) Tryz.underlying192,
    err "strconv.ErrRange" 2 192 _ _ _ (List.mem_cons_of_mem _ (List.mem_cons_of_mem _ (List.mem_cons_of_mem _ (List.mem_cons_self ..)))) Tryz.gRan (by kernel_rfl) Tryz.underlying192, ?_⟩
  obtain ⟨g, t, cs, fuel, p, h1, h2, h3, h4⟩ := Lib.laidMet.reads hL (n := "internal/strconv.uint64pow10") (d := Rows.laid_internal_strconv_uint64pow10) (List.mem_cons_of_mem _ (List.mem_cons_of_mem _ (List.mem_cons_self ..)))
  obtain ⟨g0, hg0, t0, ht0, n, e, hta, hte⟩ : ∃ g0, Tryz.prog.globalNamed "internal/strconv.uint64pow10" = some g0 ∧ ∃ t0, (Tryz.prog.globals[g0]?).map (·.type) = some t0 ∧ ∃ n e, (Tryz.prog.underlying t0 = some (.array n e) ∧ Tryz.prog.cellsOf t0 = n) ∧ Tryz.prog.underlying e = some (.int .u64) ∧ Tryz.prog.cellsOf e = 1 := ⟨3, Tryz.gPow, 284, by kernel_rfl, 20, 243, ⟨by kernel_rfl, by kernel_rfl⟩, by kernel_rfl, by kernel_rfl⟩
  rw [hg0] at h1; cases h1
  rw [ht0] at h2; cases h2
  have hd : (Rows.laid_internal_strconv_uint64pow10 : DataW Unit) = Lib.tabData .u64 Lib.pow10Tab := by kernel_rfl
  rw [hd] at h4
  have := Lib.cells_of_tab hta.1 hte.1 hte.2 hta.2 h4
  unfold Lib.TabIs
  rw [h3, ← this]

/-! ## The told functions of this program -/
theorem gsz : Tryz.prog.globals.size = 6 := by kernel_rfl
theorem envS_ok {t : Tm} (ht : t.All (FnOk Tryz.prog)) (hq : ∀ k, quietS k = true → t.get k = none) : EnvOk Tryz.prog (envS t.get) :=
  ⟨fun k F h => Tm.get_all ht h, fun k hk => ⟨fun F hF => (by rw [show (envS t.get).fs k = t.get k from rfl, hq k hk] at hF; cases hF), fun vals H v H' h => by
    simp only [envS, quietS, prS] at hk h
    simp only [Bool.or_eq_true] at hk
    rcases hk with ((((hk | hk) | hk) | hk) | hk) | hk <;> (rw [Nat.eq_of_beq_eq_true hk] at h; exact (q_some h).2)⟩⟩

theorem envX_ok {t : Tm} {x : Nat → Bool} (ht : t.All (FnOk Tryz.prog)) (hq : ∀ k, (quietS k || x k) = true → (∀ F, t.get k = some F → (own F.mode).isSome = true)) (hx : ∀ k, x k = true → ∀ l H, prS k l H = none) : EnvOk Tryz.prog (envX x t.get) :=
  ⟨fun k F h => Tm.get_all ht h, fun k hk => ⟨hq k hk, fun vals H v H' h => by
    simp only [envX, Bool.or_eq_true] at hk
    rcases hk with hk | hk
    · simp only [envX, quietS, prS] at hk h
      simp only [Bool.or_eq_true] at hk
      rcases hk with ((((hk | hk) | hk) | hk) | hk) | hk <;> (rw [Nat.eq_of_beq_eq_true hk] at h; exact (q_some h).2)
    · simp only [envX] at h
      rw [hx k hk] at h; cases h⟩⟩

theorem prims_okN {W : World} {N : Nat} (hN : 4 ≤ N) (hF : Facts W) (fs : Nat → Option CF) : PrimOk Fence.wide Tryz.prog (FbOf W N) (envS fs) := by
  have p103 : PrimAt Tryz.prog (FbOf W N) 103 fun l H => q (pIndexByte l) H := prim_IndexByte fun s c w _ => Tryz.strings_IndexByte s c w
  have p66 : PrimAt Tryz.prog (FbOf W N) 66 fun l H => q (pIndex l) H := prim_Index fun s t w hb hs => by
    obtain ⟨m, hm⟩ := hF.mx
    exact Tryz.strings_Index s t m w hs (FbOf_cell hb (Nat.lt_of_lt_of_le (m := 4) (by decide) hN) hm)
  have p65 : PrimAt Tryz.prog (FbOf W N) 65 fun l H => q (pContains l) H := prim_Contains fun s t w hb hs => by
    obtain ⟨m, hm⟩ := hF.mx
    exact Tryz.strings_Contains s t m w hs (FbOf_cell hb (Nat.lt_of_lt_of_le (m := 4) (by decide) hN) hm)
  have p140 : PrimAt Tryz.prog (FbOf W N) 140 fun l H => q (pCompare l) H := prim_Compare fun s t w _ => Tryz.strings_Compare s t w
  have p186 : PrimAt Tryz.prog (FbOf W N) 186 fun l H => q (pFormatInt l) H := prim_FormatInt fun n w hb h0 h1 => by
    refine (Tryz.strconv_FormatInt_10 n h0 h1 w (FbOf_var hb Tryz.gPow (Nat.lt_of_lt_of_le (m := 4) (by decide) hN) hF.tab)).mono fun e w' ⟨e1, k, os, e2⟩ => ⟨e1, ?_⟩
    subst e2
    exact ⟨rfl, rfl, rfl, by simp [Sort.grow, World.drewN], fun j hj => by simp [Sort.grow, World.drewN, Array.getElem?_append_left hj]⟩
  have p185 : PrimAt Tryz.prog (FbOf W N) 185 fun l H => q (pParseInt l) H := prim_ParseInt
    (fun s v w _ hs hp => (Tryz.strconv_ParseInt_10_at64_ok s (by omega) v hp w).mono fun e w' ⟨e1, e2⟩ => ⟨e1, by
      rcases e2 with rfl | ⟨t, rfl⟩
      · exact Below.refl _ _
      · exact Lib.bytesWorld_below _ _ _⟩)
    (fun s w hb hs h1 h2 => by
      obtain ⟨t, x, h⟩ := hF.sy
      exact (Any.strconv_ParseInt_10_at64_syntax Tryz.laysC174 s (by omega) (by rcases e : Lib.parseIntB 64 s.data.toList with v | _ | _ <;> first | rfl | exact absurd e (h1 v) | exact absurd e h2) _ w (FbOf_cell hb (Nat.lt_of_lt_of_le (m := 4) (by decide) hN) h) (.inr ⟨t, x, rfl⟩)).mono fun e w' ⟨N, e1, _, _, e2⟩ => ⟨_, _, e1, e2⟩)
    (fun s w hb hs hp => by
      obtain ⟨t, x, h⟩ := hF.ra
      exact (Tryz.strconv_ParseInt_10_at64_range s (by omega) hp _ w (FbOf_cell hb (Nat.lt_of_lt_of_le (m := 4) (by decide) hN) h) (.inr ⟨t, x, rfl⟩)).mono fun e w' ⟨N, e1, _, _, e2⟩ => ⟨_, _, e1, e2⟩)
  have hoks : OksOk Tryz.prog oksS := by
    intro x hx
    simp only [oksS, List.mem_cons, List.not_mem_nil, or_false] at hx
    rcases hx with rfl | rfl | rfl <;> exact ⟨by kernel_rfl, by decide, by kernel_rfl⟩
  have p161 : PrimAt Tryz.prog (FbOf W N) 161 (pCopyCheck oksS) := prim_copyCheck hoks
  have p86 : PrimAt Tryz.prog (FbOf W N) 86 (pString oksS 5) := prim_String hoks
  intro k vals H v H' h
  simp only [envS, prS] at h
  have go : ∀ {n : Nat} {g : List AV → Hp → Option (AV × Hp)} {fn : Func}, Nat.beq k n = true → PrimAt Tryz.prog (FbOf W N) n g → g vals H = some (v, H') → Tryz.prog.funcs[n]? = some fn → (fn.name == "runtime.NumGoroutine") = false → (∃ c, fn.body = some c) →
      (∃ fn c, Tryz.prog.funcs[k]? = some fn ∧ (fn.name == "runtime.NumGoroutine") = false ∧ fn.body = some c) ∧ ∀ m F w us, WR Tryz.prog (FbOf W N) m F H w → VRL m F vals us → CallsIn (fen Fence.wide none) 0 Tryz.prog k us w (RetOk Tryz.prog (FbOf W N) m F H w v H') := by
    intro n g fn e hp hg hf hn hb
    obtain ⟨c, hc⟩ := hb
    rw [Nat.eq_of_beq_eq_true e]
    exact ⟨⟨fn, c, hf, hn, hc⟩, fun m F w us hw hv => hp vals H v H' hg m F w us hw hv⟩
  cases e1 : Nat.beq k 103 with
  | true => rw [e1] at h; exact go e1 p103 h Tryz.func103 (by kernel_rfl) ⟨_, rfl⟩
  | false =>
  rw [e1] at h; simp only [cond_false] at h
  cases e2 : Nat.beq k 66 with
  | true => rw [e2] at h; exact go e2 p66 h Tryz.func66 (by kernel_rfl) ⟨_, rfl⟩
  | false =>
  rw [e2] at h; simp only [cond_false] at h
  cases e3 : Nat.beq k 65 with
  | true => rw [e3] at h; exact go e3 p65 h Tryz.func65 (by kernel_rfl) ⟨_, rfl⟩
  | false =>
  rw [e3] at h; simp only [cond_false] at h
  cases e4 : Nat.beq k 140 with
  | true => rw [e4] at h; exact go e4 p140 h Tryz.func140 (by kernel_rfl) ⟨_, rfl⟩
  | false =>
  rw [e4] at h; simp only [cond_false] at h
  cases e5 : Nat.beq k 185 with
  | true => rw [e5] at h; exact go e5 p185 h Tryz.func185 (by kernel_rfl) ⟨_, rfl⟩
  | false =>
  rw [e5] at h; simp only [cond_false] at h
  cases e6 : Nat.beq k 186 with
  | true => rw [e6] at h; exact go e6 p186 h Tryz.func186 (by kernel_rfl) ⟨_, rfl⟩
  | false =>
  rw [e6] at h; simp only [cond_false] at h
  cases e7 : Nat.beq k 161 with
  | true => rw [e7] at h; exact go e7 p161 h Tryz.func161 (by kernel_rfl) ⟨_, rfl⟩
  | false =>
  rw [e7] at h; simp only [cond_false] at h
  cases e8 : Nat.beq k 86 with
  | true => rw [e8] at h; exact go e8 p86 h Tryz.func86 (by kernel_rfl) ⟨_, rfl⟩
  | false =>
  rw [e8] at h; simp only [cond_false] at h
  cases h
theorem prims_ok {W : World} (hF : Facts W) (fs : Nat → Option CF) : PrimOk Fence.wide Tryz.prog (FbOf W 6) (envS fs) := prims_okN (by decide) hF fs
theorem mixS : Tryz.prog.follows .mixedOrders = true := by kernel_rfl

/-! ## From the evaluator's answer to the row's -/
theorem WR.start (W : World) (n : Nat) : WR Tryz.prog (FbOf W n) noM (FbOf W n) [] W :=
  ⟨FzLe.refl _, fun c o h => (by
    unfold FbOf at h
    split at h
    · exact h
    · cases h), fun b p h => (by cases h), fun b b' p p' h => (by cases h), fun b p h => (by cases h)⟩
theorem Gs.below {m : Mp} {F F' : Fz} {H H' : Hp} {w w' : World} {m' : Mp} (g : Gs m F H w m' F' H' w') (hm : ∀ b p, m b = some p → ¬ mutAt H b) : Below w.heap.size w w' :=
  ⟨g.os, g.tape, g.out, g.sz, fun k hk => g.fr k hk fun b p hb _ => hm b p hb⟩

theorem post_below {H : Type} {enc : TypeId × Value → H} {P : Program} {f : Func} {s : ChangeSpec} {apart fresh handsOn again : Bool} {W W' : World} {args : Array Value} {v : Value} {ds gs : List (DataW H)} {before pa pv : List MemPlace}
    (hW : DataW.Whole enc P f.params.toList s.vars apart W args.toList ds gs before)
    (hres : ∀ (b : Nat) (sp : Nat → Bool) (hd : Bool), DataW.TrodAll enc P W' b sp hd f.resultTypes.toList (v.resultList f.resultTypes.size) (s.fn H (ds ++ gs)).results [])
    (hargs : ∀ sp : Nat → Bool, (∀ p ∈ before, sp p.block = true) → DataW.TrodAll enc P W' 0 sp true f.params.toList args.toList (s.fn H (ds ++ gs)).args pa)
    (hvars : ∀ sp : Nat → Bool, (∀ p ∈ before, sp p.block = true) → DataW.TrodVars enc P W' sp s.vars (s.fn H (ds ++ gs)).vars pv)
    (hps : before = pa ++ pv) (hb : Below W.heap.size W W')
    (hok : ∀ (j : Nat) (t : TypeId) (r : Value), f.resultTypes[j]? = some t → (v.resultList f.resultTypes.size)[j]? = some r → Value.okWide P W' .any 0 t r) :
    s.post enc P f apart fresh handsOn again W args v W' := by
  have hold : ∀ p ∈ before, (fun b => decide (b < W.heap.size)) p.block = true := fun p hp => by simpa using hW.lt p hp
  have hlt : ∀ p ∈ before, p.block < W.heap.size := fun p hp => hW.lt p hp
  refine ⟨ds, gs, before, [], pa, pv, hW, hres _ _ _, hargs _ hold, hvars _ hold, World.keptBut_mono (fun p hp => ⟨hp, ?_⟩) (hb.frame _), fun _ => ?_⟩
  · rw [hps, List.mem_append] at hp
    exact Or.inr hp
  · obtain ⟨_, _, _, _, _, hz, hn⟩ := hW
    refine ⟨hok, _, _, ([] ++ pa) ++ pv, ⟨[] ++ pa, pv, trodAll_append (hargs _ (fun _ _ => rfl)) (hres _ _ _), hvars _ (fun _ _ => rfl), rfl, ?_, ?_⟩, ?_⟩
    · intro b off hp
      have hp' : MemPlace.cell b off ∈ before := by rw [hps]; simpa using hp
      have hfz : W'.frozen? ⟨b, off, none⟩ = W.frozen? ⟨b, off, none⟩ := by
        unfold World.frozen?
        rw [hb.block b (hlt _ hp')]
      rw [hfz]
      exact hz b off hp'
    · intro ha
      have := hn ha
      rw [hps] at this
      simpa using this
    · intro p hp _
      rw [hps]
      simpa using hp
end Go.EV
