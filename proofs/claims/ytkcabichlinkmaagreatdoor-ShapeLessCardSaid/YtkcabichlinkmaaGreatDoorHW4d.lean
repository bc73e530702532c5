/- ShapeLess returns true: whatever pattern, whatever goes. Conditions: none beyond the row's own (the listed variables of Go's library read as the program's text lays them). -/
import Derived.Test.YtkcabichlinkmaaGreatDoorCards
import Derived.Test.YtkcabichlinkmaaGreatDoorTie
import Derived.Test.YtkcabichlinkmaaGreatDoorHRR
import Derived.Test.YtkcabichlinkmaaGreatDoorHEF
namespace Go.EV
open Go.Proofs
theorem compF_mode {P : Program} {m m' : Nat} {fn : Func} {F : CF} (h : compF P m fn = some F) : compF P m' fn = some { F with mode := m' } := by
  unfold compF at h ⊢
  cases hb : fn.body with
  | none => rw [hb] at h; cases h
  | some c =>
    rw [hb] at h
    simp only at h ⊢
    revert h
    split
    · split
      · intro h; cases h; rfl
      · intro h; cases h
    · intro h; cases h
theorem FnOk.mode {P : Program} {k : Nat} {F : CF} {m : Nat} (h : FnOk P k F) : FnOk P k { F with mode := m } := by
  obtain ⟨fn, h1, h2, h3⟩ := h
  exact ⟨fn, h1, h2, compF_mode h3⟩
def tmO : Tm := (.node (.node (.node (.node (.node .leaf 4 F4.pure .leaf) 18 F18.pure (.node .leaf 19 F19.pure .leaf)) 20 F20.pure (.node (.node .leaf 42 F42.pure .leaf) 48 F48.pure .leaf)) 49 F49.pure (.node (.node (.node .leaf 50 F50.pure .leaf) 73 F73 .leaf) 74 F74.pure (.node (.node .leaf 75 F75.open .leaf) 76 F76 .leaf))) 77 F77.pure (.node (.node (.node (.node .leaf 84 F84.pure .leaf) 97 F97 .leaf) 107 F107 (.node (.node .leaf 115 F115 .leaf) 116 F116.pure .leaf)) 117 F117.open (.node (.node (.node .leaf 121 F121.pure .leaf) 122 F122.pure .leaf) 154 F154 (.node (.node .leaf 159 F159.pure .leaf) 160 F160.pure .leaf))))
theorem tmO_ok : tmO.All (FnOk Tryz.prog) := ⟨⟨⟨⟨⟨trivial, k4.mode, trivial⟩, k18.mode, ⟨trivial, k19.mode, trivial⟩⟩, k20.mode, ⟨⟨trivial, k42.mode, trivial⟩, k48.mode, trivial⟩⟩, k49.mode, ⟨⟨⟨trivial, k50.mode, trivial⟩, k73, trivial⟩, k74.mode, ⟨⟨trivial, k75.mode, trivial⟩, k76, trivial⟩⟩⟩, k77.mode, ⟨⟨⟨⟨trivial, k84.mode, trivial⟩, k97, trivial⟩, k107, ⟨⟨trivial, k115, trivial⟩, k116.mode, trivial⟩⟩, k117.mode, ⟨⟨⟨trivial, k121.mode, trivial⟩, k122.mode, trivial⟩, k154, ⟨⟨trivial, k159.mode, trivial⟩, k160.mode, trivial⟩⟩⟩⟩
def pr4 : Nat → List AV → Hp → Option (AV × Hp) := fun k l H => match toldGet toldRc k l with | some v => some (v, H) | none => prS k l H
def EO : Env := { fs := tmO.get, pr := pr4, quiet := quietS }
theorem Cl.prim4 {E : Env} {k : Nat} {vs caps : List AV} {H H1 : Hp} {v : AV} (h : E.pr k (vs ++ caps) H = some (v, H1)) : Cl E (.fn k caps) vs H v H1 := by
  refine ⟨1, ?_⟩
  rw [ev_succ]
  simp only [evStep, h]
theorem vrl_two {W : World} {a b : AV} {v w : Value} (h : Rl W [a] [v]) (k : Rl W [b] [w]) : VRL noM (FbA W) [a, b] #[v, w] :=
  ⟨rfl, fun i x y e1 e2 => (h.app k).2.1 i x y e1 (by simpa using e2)⟩
theorem shapeLess_fn (l : List It) (hl : l.length ≤ mx63) (hs : It.sms l) (g : List Bool) : ∀ H, Cl EO (.fn 4 []) [.lst (It.avs l), .lst (gav g)] H (.bool true) H :=
  (w4 (E := EO) ⟨by kernel_rfl, fun _ _ => rfl⟩ (fun _ => Cl.prim4 rfl) ⟨by kernel_rfl, fun _ _ => rfl⟩ ⟨by kernel_rfl, fun _ _ => rfl⟩ ⟨by kernel_rfl, fun _ _ => rfl⟩ ⟨by kernel_rfl, fun _ _ => rfl⟩ ⟨by kernel_rfl, fun _ _ => rfl⟩ ⟨by kernel_rfl, fun _ _ => rfl⟩ ⟨by kernel_rfl, fun _ _ => rfl⟩ ⟨by kernel_rfl, fun _ _ => rfl⟩ ⟨by kernel_rfl, fun _ _ => rfl⟩ ⟨by kernel_rfl, fun _ _ => rfl⟩ ⟨by kernel_rfl, fun _ _ => rfl⟩ ⟨by kernel_rfl, fun _ _ => rfl⟩ ⟨by kernel_rfl, fun _ _ => rfl⟩ ⟨by kernel_rfl, fun _ _ => rfl⟩ ⟨by kernel_rfl, fun _ _ => rfl⟩ ⟨by kernel_rfl, fun _ _ => rfl⟩ ⟨by kernel_rfl, fun _ _ => rfl⟩ ⟨by kernel_rfl, fun _ _ => rfl⟩ ⟨by kernel_rfl, fun _ _ => rfl⟩ ⟨by kernel_rfl, fun _ _ => rfl⟩ ⟨by kernel_rfl, fun _ _ => rfl⟩ ⟨by kernel_rfl, fun _ _ => rfl⟩ ⟨by kernel_rfl, fun _ _ => rfl⟩ hl hs g).cl rfl
theorem quietS_mem4 {k : Nat} (h : quietS k = true) : k = 103 ∨ k = 66 ∨ k = 65 ∨ k = 140 ∨ k = 185 ∨ k = 186 := by
  simp only [quietS, Bool.or_eq_true, Nat.beq_eq] at h
  omega
end Go.EV
namespace Go.Proofs.YtkcabichlinkmaaGreatDoor
open Go.ChangeShapes Go.WideShapes Go.ChangeAt Go.RowKit Go.EV

theorem shapeLess_own : ownKnob Tryz.prog.godebug = none := by kernel_rfl

set_option maxRecDepth 100000 in
theorem shapeLess_contract (H : Type) (enc : TypeId × Value → H) (W : World) (base : Nat) (args : Array Value) (ds gs : List (DataW H)) (before : List MemPlace)
    (hval : ∀ (j : Nat) t v, Tryz.f4.params[j]? = some t → args[j]? = some v → Value.okWide Tryz.prog W .any base t v)
    (hW : DataW.Whole enc Tryz.prog Tryz.f4.params.toList Rows.shapeLessSpec.vars false W args.toList ds gs before) (hsh : W.ShapedOpen Tryz.prog) (hL : laidMetH Tryz.prog Rows.shapeLessRow.laid W) :
    Calls Tryz.prog 4 args W fun e W' => ∃ v, e = .returned v ∧ Rows.shapeLessSpec.post enc Tryz.prog Tryz.f4 false true false false W args v W' := by
  have hW' := hW
  obtain ⟨p, q, hA0, hV, rfl, hfz, hnd⟩ := hW
  have hA : DataW.TrodAll enc Tryz.prog W 0 (fun _ => true) true Tryz.f4.params.toList args.toList ds p := hA0
  rw [Tryz.params4] at hA
  obtain ⟨v, v', d, d', p1, p2, rfl, rfl, hp12, hd, hd'⟩ := trodAll_two hA
  have hF := facts_of hsh hL
  have hsz := heap_size hF
  obtain ⟨a0, len, cap, rfl⟩ := okWide_slice Tryz.underlying22 (hval 0 22 v (by rw [Tryz.params4]; rfl) rfl)
  obtain ⟨a1, len1, cap1, rfl⟩ := okWide_slice Tryz.underlying39 (hval 1 39 v' (by rw [Tryz.params4]; rfl) rfl)
  obtain ⟨n, hn⟩ := hd
  obtain ⟨n', hn'⟩ := hd'
  obtain ⟨avs, ⟨l, rfl, hl, hsm⟩, hrl⟩ := (rd_items n).1 _ _ hn
  obtain ⟨avs', ⟨g, rfl⟩, hrl'⟩ := rd_bools n' _ _ hn'
  have hE0 := envS_ok tm4_ok (by
    intro k hk
    rcases quietS_mem4 hk with rfl | rfl | rfl | rfl | rfl | rfl <;> rfl)
  have hp0 := prims_okN hsz hF tm4.get
  have ht0 := toldRa_ok hE0 hp0 mixS
  have ht1 := toldRb_ok (told_env hE0 toldRa) (told_ok hp0 ht0) mixS
  have ht2 := toldRc_ok (told_env (told_env hE0 toldRa) toldRb) (told_ok (told_ok hp0 ht0) ht1) mixS
  have hE1 := envS_ok tmO_ok (by
    intro k hk
    rcases quietS_mem4 hk with rfl | rfl | rfl | rfl | rfl | rfl <;> rfl)
  have hE := told_env hE1 toldRc
  have hp : PrimOk Fence.wide Tryz.prog (FbA W) ((envS tmO.get).told toldRc) := told_ok (E := envS tmO.get) (prims_okN hsz hF tmO.get) ht2
  exact open_contract (k := 4) hW' rfl rfl (by kernel_rfl) (by kernel_rfl) (by kernel_rfl) hE hp (vrl_two hrl hrl') (shapeLess_fn l hl hsm g [])

theorem shapeLess_reads (os : Os) {H : Type} (enc : TypeId × Value → H) : ∃ places, DataW.whole enc Tryz.prog ((World.laidAll Tryz.prog os Rows.shapeLessRow.laid).forCall (fun _ _ => 0) ⟨#[], #[.slice none 0 0, .slice none 0 0], []⟩).memory Tryz.f4.params.toList Rows.shapeLessSpec.vars false (#[.slice none 0 0, .slice none 0 0] : Array Value).toList 8 = some ([.nil, .nil], [], places) :=
  ⟨[], by kernel_rfl⟩

set_option maxRecDepth 100000 in
theorem shapeLess_lifted (os : Os) (started : os.Started) (H : Type) (enc : TypeId × Value → H) (F : Stop.Interp) :
    ReturnsInHanded {} Tryz.checked os 4 .any ((OpenSpec.ofChange Rows.shapeLessSpec).preRow enc Tryz.prog Tryz.f4 Rows.shapeLessRow.domain false Rows.shapeLessRow.laid) (((OpenSpec.ofChange Rows.shapeLessSpec).at F).post enc Tryz.prog Tryz.f4 false true false false) := by
  obtain ⟨places, hx⟩ := shapeLess_reads os enc
  refine returnsInHanded_of_row (C := Tryz.checked) (s := OpenSpec.ofChange Rows.shapeLessSpec) shapeLess_own started (by kernel_rfl) Tryz.func4
    (witness_row_atRef (enc := enc) (C := Tryz.checked) false (World.laidAll Tryz.prog os Rows.shapeLessRow.laid) #[.slice none 0 0, .slice none 0 0] (World.laidAll_os _ _ _) (by kernel_rfl) (by kernel_rfl) (by kernel_rfl)
      (OpenSpec.preRow_of_cond 8 hx (by kernel_rfl) (fun k hk => by cases hk) (by kernel_rfl) (laidMet_laidAll #[.slice none 0 0, .slice none 0 0] (by kernel_rfl) (by kernel_rfl)))) ?_
  intro W base args ds gs before hval hW _ _ _ hL hsh _
  exact shapeLess_contract H enc W base args ds gs before hval hW hsh hL

theorem shapeLess_said : Rows.ShapeLessSaid :=
  OpenClaim.holds_of_cond 4 Tryz.f4 rfl rfl rfl rfl rfl rfl rfl ⟨rfl, rfl, rfl, rfl, rfl⟩ rfl rfl rfl rfl rfl (by kernel_rfl) Tryz.func4 (by kernel_rfl)
    (of_decide_eq_true (by kernel_rfl)) (by unfold Func.isWrapper; first | (rw [if_pos (by decide +kernel)]; kernel_rfl) | (rw [if_neg (by decide +kernel)]; exact ⟨rfl, rfl⟩))
    (fun os started H enc _ F => by rw [OpenClaim.pre_eq_preRow]; exact shapeLess_lifted os started H enc F)

theorem shapeLess_plain (f : FuncId) (fn : Func) (hf : Tryz.pinned.checked.prog.funcNamed "daybook/daybooklaw19.ShapeLess" = some f) (hfn : Tryz.pinned.checked.prog.funcs[f]? = some fn) :
    true = Tryz.pinned.checked.prog.looks [] ∧ ∀ (j : Nat) t, fn.params[j]? = some t → Tryz.pinned.checked.prog.wantsStandIn t = false := by
  obtain rfl : f = 4 := Option.some.inj ((show Tryz.prog.funcNamed "daybook/daybooklaw19.ShapeLess" = some 4 by kernel_rfl).symm.trans hf) |>.symm
  obtain rfl : fn = Tryz.f4 := (Option.some.inj (Tryz.func4.symm.trans hfn)).symm
  refine ⟨by kernel_rfl, fun j t ht => ?_⟩
  rw [Tryz.params4] at ht
  match j, ht with
  | 0, ht =>
    have h22 : Tryz.prog.wantsStandIn 22 = false := by kernel_rfl
    obtain rfl : t = 22 := by simpa using ht.symm
    exact h22
  | 1, ht =>
    have h39 : Tryz.prog.wantsStandIn 39 = false := by kernel_rfl
    obtain rfl : t = 39 := by simpa using ht.symm
    exact h39
  | j + 2, ht => simp at ht

theorem shapeLess_card : Rows.ShapeLessCardSaid :=
  Claim7.holds_tied_plain_at .later [] _ _ _ _ shapeLess_said (fun _ h => by cases h) (by kernel_rfl) (fun _ h => by cases h) shapeLess_row_tie rfl ⟨rfl, rfl⟩ (by kernel_rfl) rfl shapeLess_plain (by kernel_rfl)
#print axioms shapeLess_card
end Go.Proofs.YtkcabichlinkmaaGreatDoor
