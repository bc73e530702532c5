/- PullBack returns true: whatever tree it is handed, what its node says is the tree. Conditions: none beyond the row's own (the listed variables of Go's library read as the program's text lays them). -/
import Derived.Test.YtkcabichlinkmaaGreatDoorCards
import Derived.Test.YtkcabichlinkmaaGreatDoorTie
import Derived.Test.YtkcabichlinkmaaGreatDoorHQQ
import Derived.Test.YtkcabichlinkmaaGreatDoorHWB
import Derived.Test.YtkcabichlinkmaaGreatDoorHEF
namespace Go.EV
open Go.Proofs
def pr10 : Nat → List AV → Hp → Option (AV × Hp) := fun k l H => match toldGet toldQc k l with | some v => some (v, H) | none => prS k l H
theorem has10 : Has10 (E3 tm3.get pr10) :=
  ⟨⟨by kernel_rfl, fun _ _ => rfl⟩, ⟨by kernel_rfl, fun _ _ => rfl⟩, ⟨by kernel_rfl, fun _ _ => rfl⟩, ⟨by kernel_rfl, fun _ _ => rfl⟩, ⟨by kernel_rfl, fun _ _ => rfl⟩, ⟨by kernel_rfl, fun _ _ => rfl⟩, ⟨by kernel_rfl, fun _ _ => rfl⟩, ⟨by kernel_rfl, fun _ _ => rfl⟩,
   ⟨by kernel_rfl, fun _ _ => rfl⟩, ⟨by kernel_rfl, fun _ _ => rfl⟩, ⟨by kernel_rfl, fun _ _ => rfl⟩, ⟨by kernel_rfl, fun _ _ => rfl⟩, ⟨by kernel_rfl, fun _ _ => rfl⟩, ⟨by kernel_rfl, fun _ _ => rfl⟩, ⟨by kernel_rfl, fun _ _ => rfl⟩, ⟨by kernel_rfl, fun _ _ => rfl⟩,
   ⟨by kernel_rfl, fun _ _ => rfl⟩, ⟨by kernel_rfl, fun _ _ => rfl⟩, ⟨by kernel_rfl, fun _ _ => rfl⟩, ⟨by kernel_rfl, fun _ _ => rfl⟩, ⟨by kernel_rfl, fun _ _ => rfl⟩, ⟨by kernel_rfl, fun _ _ => rfl⟩⟩
theorem pullBack_fn (ts : List Br) (hts : ts.length ≤ mx63) (hsm : Br.sms ts) : ∀ H, Cl (E3 tm3.get pr10) (.fn 10 []) [.lst (Br.avs ts)] H (.bool true) H :=
  pullBack_cl has10 (fun _ _ => rfl) (fun _ => Cl.prim rfl) ts hts hsm
theorem x3_mem {k : Nat} (h : x3 k = true) : k = 61 ∨ k = 98 ∨ k = 142 ∨ k = 141 ∨ k = 182 ∨ k = 139 ∨ k = 97 ∨ k = 107 ∨ k = 154 ∨ k = 96 ∨ k = 62 ∨ k = 100 ∨ k = 63 ∨ k = 78 ∨ k = 37 ∨ k = 36 ∨ k = 33 ∨ k = 34 := by
  simp only [x3, Bool.or_eq_true, Nat.beq_eq] at h
  omega
theorem quietS_mem {k : Nat} (h : quietS k = true) : k = 103 ∨ k = 66 ∨ k = 65 ∨ k = 140 ∨ k = 185 ∨ k = 186 := by
  simp only [quietS, Bool.or_eq_true, Nat.beq_eq] at h
  omega
theorem own_of {t : Tm} {k : Nat} (h : ((t.get k).map fun F => (own F.mode).isSome) = none ∨ ((t.get k).map fun F => (own F.mode).isSome) = some true) : ∀ F, t.get k = some F → (own F.mode).isSome = true := fun F e => by
  rw [e] at h
  simpa using h
theorem e3_ok : EnvOk Tryz.prog (E3 tm3.get prS) := by
  refine envX_ok (x := x3) tm3_ok (fun k hk => ?_) fun k hk => ?_
  · simp only [Bool.or_eq_true] at hk
    rcases hk with hk | hk
    · rcases quietS_mem hk with rfl | rfl | rfl | rfl | rfl | rfl <;> exact own_of (.inl (by kernel_rfl))
    · rcases x3_mem hk with rfl | rfl | rfl | rfl | rfl | rfl | rfl | rfl | rfl | rfl | rfl | rfl | rfl | rfl | rfl | rfl | rfl | rfl <;> exact own_of (.inr (by kernel_rfl))
  · rcases x3_mem hk with rfl | rfl | rfl | rfl | rfl | rfl | rfl | rfl | rfl | rfl | rfl | rfl | rfl | rfl | rfl | rfl | rfl | rfl <;> exact fun _ _ => rfl
end Go.EV
namespace Go.Proofs.YtkcabichlinkmaaGreatDoor
open Go.ChangeShapes Go.WideShapes Go.ChangeAt Go.RowKit Go.EV

theorem pullBack_own : ownKnob Tryz.prog.godebug = none := by kernel_rfl

set_option maxRecDepth 100000 in
theorem pullBack_contract (H : Type) (enc : TypeId × Value → H) (W : World) (base : Nat) (args : Array Value) (ds gs : List (DataW H)) (before : List MemPlace)
    (hval : ∀ (j : Nat) t v, Tryz.f10.params[j]? = some t → args[j]? = some v → Value.okWide Tryz.prog W .any base t v)
    (hW : DataW.Whole enc Tryz.prog Tryz.f10.params.toList Rows.pullBackSpec.vars false W args.toList ds gs before) (hsh : W.ShapedOpen Tryz.prog) (hL : laidMetH Tryz.prog Rows.pullBackRow.laid W) :
    Calls Tryz.prog 10 args W fun e W' => ∃ v, e = .returned v ∧ Rows.pullBackSpec.post enc Tryz.prog Tryz.f10 false true false false W args v W' := by
  have hW' := hW
  obtain ⟨p, q, hA0, hV, rfl, hfz, hnd⟩ := hW
  have hA : DataW.TrodAll enc Tryz.prog W 0 (fun _ => true) true Tryz.f10.params.toList args.toList ds p := hA0
  rw [Tryz.params10] at hA
  obtain ⟨v, d, rfl, rfl, hd⟩ := trodAll_one hA
  have hF := facts_of hsh hL
  have hsz := heap_size hF
  obtain ⟨a0, len, cap, rfl⟩ := okWide_slice Tryz.underlying58 (hval 0 58 v (by rw [Tryz.params10]; rfl) rfl)
  obtain ⟨n, hn⟩ := hd
  obtain ⟨avs, ⟨ts, rfl, hts, hsm⟩, hrl⟩ := (rd_tree n).1 _ _ hn
  have hE0 := envS_ok tm3_ok (by
    intro k hk
    rcases quietS_mem hk with rfl | rfl | rfl | rfl | rfl | rfl <;> rfl)
  have hp0 := prims_okN hsz hF tm3.get
  have ht0 := toldQa_ok hE0 hp0 mixS
  have ht1 := toldQb_ok (told_env hE0 toldQa) (told_ok hp0 ht0) mixS
  have ht2 := toldQc_ok (told_env (told_env hE0 toldQa) toldQb) (told_ok (told_ok hp0 ht0) ht1) mixS
  have hE := told_env e3_ok toldQc
  have hp : PrimOk Fence.wide Tryz.prog (FbA W) ((E3 tm3.get prS).told toldQc) := told_ok (E := E3 tm3.get prS) hp0 ht2
  exact open_contract (k := 10) hW' rfl rfl (by kernel_rfl) (by kernel_rfl) (by kernel_rfl) hE hp (vrl_one hrl) (pullBack_fn ts hts hsm [])

theorem pullBack_reads (os : Os) {H : Type} (enc : TypeId × Value → H) : ∃ places, DataW.whole enc Tryz.prog ((World.laidAll Tryz.prog os Rows.pullBackRow.laid).forCall (fun _ _ => 0) ⟨#[], #[.slice none 0 0], []⟩).memory Tryz.f10.params.toList Rows.pullBackSpec.vars false (#[.slice none 0 0] : Array Value).toList 8 = some ([.nil], [], places) :=
  ⟨[], by kernel_rfl⟩

set_option maxRecDepth 100000 in
theorem pullBack_lifted (os : Os) (started : os.Started) (H : Type) (enc : TypeId × Value → H) (F : Stop.Interp) :
    ReturnsInHanded {} Tryz.checked os 10 .any ((OpenSpec.ofChange Rows.pullBackSpec).preRow enc Tryz.prog Tryz.f10 Rows.pullBackRow.domain false Rows.pullBackRow.laid) (((OpenSpec.ofChange Rows.pullBackSpec).at F).post enc Tryz.prog Tryz.f10 false true false false) := by
  obtain ⟨places, hx⟩ := pullBack_reads os enc
  refine returnsInHanded_of_row (C := Tryz.checked) (s := OpenSpec.ofChange Rows.pullBackSpec) pullBack_own started (by kernel_rfl) Tryz.func10
    (witness_row_atRef (enc := enc) (C := Tryz.checked) false (World.laidAll Tryz.prog os Rows.pullBackRow.laid) #[.slice none 0 0] (World.laidAll_os _ _ _) (by kernel_rfl) (by kernel_rfl) (by kernel_rfl)
      (OpenSpec.preRow_of_cond 8 hx (by kernel_rfl) (fun k hk => by cases hk) (by kernel_rfl) (laidMet_laidAll #[.slice none 0 0] (by kernel_rfl) (by kernel_rfl)))) ?_
  intro W base args ds gs before hval hW _ _ _ hL hsh _
  exact pullBack_contract H enc W base args ds gs before hval hW hsh hL

theorem pullBack_said : Rows.PullBackSaid :=
  OpenClaim.holds_of_cond 10 Tryz.f10 rfl rfl rfl rfl rfl rfl rfl ⟨rfl, rfl, rfl, rfl, rfl⟩ rfl rfl rfl rfl rfl (by kernel_rfl) Tryz.func10 (by kernel_rfl)
    (of_decide_eq_true (by kernel_rfl)) (by unfold Func.isWrapper; first | (rw [if_pos (by decide +kernel)]; kernel_rfl) | (rw [if_neg (by decide +kernel)]; exact ⟨rfl, rfl⟩))
    (fun os started H enc _ F => by rw [OpenClaim.pre_eq_preRow]; exact pullBack_lifted os started H enc F)

theorem pullBack_plain (f : FuncId) (fn : Func) (hf : Tryz.pinned.checked.prog.funcNamed "daybook/daybooklaw20.PullBack" = some f) (hfn : Tryz.pinned.checked.prog.funcs[f]? = some fn) :
    true = Tryz.pinned.checked.prog.looks [] ∧ ∀ (j : Nat) t, fn.params[j]? = some t → Tryz.pinned.checked.prog.wantsStandIn t = false := by
  obtain rfl : f = 10 := Option.some.inj ((show Tryz.prog.funcNamed "daybook/daybooklaw20.PullBack" = some 10 by kernel_rfl).symm.trans hf) |>.symm
  obtain rfl : fn = Tryz.f10 := (Option.some.inj (Tryz.func10.symm.trans hfn)).symm
  refine ⟨by kernel_rfl, fun j t ht => ?_⟩
  rw [Tryz.params10] at ht
  match j, ht with
  | 0, ht =>
    have h58 : Tryz.prog.wantsStandIn 58 = false := by kernel_rfl
    obtain rfl : t = 58 := by simpa using ht.symm
    exact h58
  | j + 1, ht => simp at ht

theorem pullBack_card : Rows.PullBackCardSaid :=
  Claim7.holds_tied_plain_at .later [] _ _ _ _ pullBack_said (fun _ h => by cases h) (by kernel_rfl) (fun _ h => by cases h) pullBack_row_tie rfl ⟨rfl, rfl⟩ (by kernel_rfl) rfl pullBack_plain (by kernel_rfl)
#print axioms pullBack_card
end Go.Proofs.YtkcabichlinkmaaGreatDoor
