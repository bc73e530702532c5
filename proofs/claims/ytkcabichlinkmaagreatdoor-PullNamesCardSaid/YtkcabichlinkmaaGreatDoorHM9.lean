/- PullNames, evaluated. -/
import Derived.Test.YtkcabichlinkmaaGreatDoorHPn2
import Derived.Test.YtkcabichlinkmaaGreatDoorCards
import Derived.Test.YtkcabichlinkmaaGreatDoorTie
import Derived.Test.YtkcabichlinkmaaGreatDoorHEvD4
namespace Go.EV
set_option maxRecDepth 100000
theorem pullNames_ev : ev (((envS tm2.get).told toldPa).told toldPb) 100000 (.call (.fn 9 []) [] []) = .val (.bool true) [] := by kernel_rfl
end Go.EV

/- PullNames (the errors' numbers, the chapter's examples, what is refused) returns true. Conditions: none beyond the row's own (the listed variables of Go's library read as the program's text lays them). -/
namespace Go.Proofs.YtkcabichlinkmaaGreatDoor
open Go.ChangeShapes Go.WideShapes Go.ChangeAt Go.RowKit Go.EV

theorem pullNames_own : ownKnob Tryz.prog.godebug = none := by kernel_rfl

set_option maxRecDepth 100000 in
theorem pullNames_contract (H : Type) (enc : TypeId × Value → H) (W : World) (args : Array Value) (ds gs : List (DataW H)) (before : List MemPlace)
    (hW : DataW.Whole enc Tryz.prog Tryz.f9.params.toList Rows.pullNamesSpec.vars false W args.toList ds gs before) (hsh : W.ShapedOpen Tryz.prog) (hL : laidMetH Tryz.prog Rows.pullNamesRow.laid W) :
    Calls Tryz.prog 9 args W fun e W' => ∃ v, e = .returned v ∧ Rows.pullNamesSpec.post enc Tryz.prog Tryz.f9 false true false false W args v W' := by
  have hW' := hW
  obtain ⟨p, q, hA0, hV, rfl, hfz, hnd⟩ := hW
  have hA : DataW.TrodAll enc Tryz.prog W 0 (fun _ => true) true Tryz.f9.params.toList args.toList ds p := hA0
  rw [Tryz.params9] at hA
  obtain ⟨rfl, rfl, rfl⟩ := trodAll_none hA
  obtain ⟨rfl, rfl⟩ := trodVars_none hV
  clear hA0
  simp only [List.append_nil] at hW'
  have hF := facts_of hsh hL
  have hE0 := envS_ok tm2_ok (by
    intro k hk
    simp only [quietS, Bool.or_eq_true] at hk
    rcases hk with ((((hk | hk) | hk) | hk) | hk) | hk <;> (rw [Nat.eq_of_beq_eq_true hk]; rfl))
  have hp0 := prims_ok hF tm2.get
  have ht0 := toldPa_ok hE0 hp0 mixS
  have hE1 := told_env hE0 toldPa
  have hp1 := told_ok hp0 ht0
  have ht1 := toldPb_ok hE1 hp1 mixS
  have hE2 := told_env hE1 toldPb
  have hp2 := told_ok hp1 ht1
  have hc := ev_calls (Fb := FbOf W 6) open_wide hE2 hp2 mixS pullNames_ev (WR.start W 6) (us := #[]) ⟨rfl, fun i v v' e => by simp at e⟩
  refine (callsIn_wide.1 hc).mono fun e W' ⟨u, he, m', F', hv, hw, hg⟩ => ?_
  subst he
  cases hv
  have hb := hg.below (fun b p h => by cases h)
  exact ⟨_, rfl, post_below (pa := []) (pv := []) hW' (fun _ _ _ => trodAll_cons_mk (shut_bool Tryz.underlying4 _) trodAll_mk0) (fun sp _ => rfl) (fun _ _ => rfl) rfl hb (ok_one (by kernel_rfl) rfl (okWide_bool_mk Tryz.underlying4 _))⟩

theorem pullNames_reads (os : Os) {H : Type} (enc : TypeId × Value → H) : ∃ places, DataW.whole enc Tryz.prog ((World.laidAll Tryz.prog os Rows.pullNamesRow.laid).forCall (fun _ _ => 0) ⟨#[], #[], []⟩).memory Tryz.f9.params.toList Rows.pullNamesSpec.vars false (#[] : Array Value).toList 8 = some ([], [], places) :=
  ⟨[], by kernel_rfl⟩

set_option maxRecDepth 100000 in
theorem pullNames_lifted (os : Os) (started : os.Started) (H : Type) (enc : TypeId × Value → H) (F : Stop.Interp) :
    ReturnsInHanded {} Tryz.checked os 9 .any ((OpenSpec.ofChange Rows.pullNamesSpec).preRow enc Tryz.prog Tryz.f9 Rows.pullNamesRow.domain false Rows.pullNamesRow.laid) (((OpenSpec.ofChange Rows.pullNamesSpec).at F).post enc Tryz.prog Tryz.f9 false true false false) := by
  obtain ⟨places, hx⟩ := pullNames_reads os enc
  refine returnsInHanded_of_row (C := Tryz.checked) (s := OpenSpec.ofChange Rows.pullNamesSpec) pullNames_own started (by kernel_rfl) Tryz.func9
    (witness_row_atRef (enc := enc) (C := Tryz.checked) false (World.laidAll Tryz.prog os Rows.pullNamesRow.laid) #[] (World.laidAll_os _ _ _) (by kernel_rfl) (by kernel_rfl) (by kernel_rfl)
      (OpenSpec.preRow_of_cond 8 hx (by kernel_rfl) (fun k hk => by cases hk) (by kernel_rfl) (laidMet_laidAll #[] (by kernel_rfl) (by kernel_rfl)))) ?_
  intro W base args ds gs before hval hW _ _ _ hL hsh _
  exact pullNames_contract H enc W args ds gs before hW hsh hL

theorem pullNames_said : Rows.PullNamesSaid :=
  OpenClaim.holds_of_cond 9 Tryz.f9 rfl rfl rfl rfl rfl rfl rfl ⟨rfl, rfl, rfl, rfl, rfl⟩ rfl rfl rfl rfl rfl (by kernel_rfl) Tryz.func9 (by kernel_rfl)
    (of_decide_eq_true (by kernel_rfl)) (by unfold Func.isWrapper; first | (rw [if_pos (by decide +kernel)]; kernel_rfl) | (rw [if_neg (by decide +kernel)]; exact ⟨rfl, rfl⟩))
    (fun os started H enc _ F => by rw [OpenClaim.pre_eq_preRow]; exact pullNames_lifted os started H enc F)

theorem pullNames_plain (f : FuncId) (fn : Func) (hf : Tryz.pinned.checked.prog.funcNamed "daybook/daybooklaw20.PullNames" = some f) (hfn : Tryz.pinned.checked.prog.funcs[f]? = some fn) :
    true = Tryz.pinned.checked.prog.looks [] ∧ ∀ (j : Nat) t, fn.params[j]? = some t → Tryz.pinned.checked.prog.wantsStandIn t = false := by
  obtain rfl : f = 9 := Option.some.inj ((show Tryz.prog.funcNamed "daybook/daybooklaw20.PullNames" = some 9 by kernel_rfl).symm.trans hf) |>.symm
  obtain rfl : fn = Tryz.f9 := (Option.some.inj (Tryz.func9.symm.trans hfn)).symm
  refine ⟨by kernel_rfl, fun j t ht => ?_⟩
  rw [Tryz.params9] at ht
  simp at ht

theorem pullNames_card : Rows.PullNamesCardSaid :=
  Claim7.holds_tied_plain_at .later [] _ _ _ _ pullNames_said (fun _ h => by cases h) (by kernel_rfl) (fun _ h => by cases h) pullNames_row_tie rfl ⟨rfl, rfl⟩ (by kernel_rfl) rfl pullNames_plain (by kernel_rfl)
#print axioms pullNames_card
end Go.Proofs.YtkcabichlinkmaaGreatDoor
