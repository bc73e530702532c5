/- What is handed in: data read off the first heap, as the evaluator's values. -/
import Derived.Test.YtkcabichlinkmaaGreatDoorHEvD4
import Derived.ChangeArms
import Derived.DataReads
import Derived.Test.YtkcabichlinkmaaGreatDoorHMM
import Derived.WideKeyArgs
import Derived.Carry
import Derived.Test.YtkcabichlinkmaaGreatDoorHTD
namespace Go.EV
open Go.RowKit Go.Proofs Go.ChangeShapes Go.WideShapes

def FbA (W : World) : Fz := FbOf W W.heap.size
/-- The cells read so. -/
def Rl (W : World) (avs : List AV) (cs : List Value) : Prop := avs.length = cs.length ∧ (∀ (i : Nat) (v : AV) (u : Value), avs[i]? = some v → cs[i]? = some u → VR noM (FbA W) v u) ∧ hfL avs = true
theorem Rl.nil {W : World} : Rl W [] [] := ⟨rfl, fun i v u e => by simp at e, rfl⟩
theorem hfL_append {a b : List AV} : hfL (a ++ b) = (hfL a && hfL b) := by
  induction a with
  | nil => rfl
  | cons x r ih => simp only [List.cons_append, hfL, ih, Bool.and_assoc]
theorem Rl.app {W : World} {a b : List AV} {x y : List Value} (h : Rl W a x) (k : Rl W b y) : Rl W (a ++ b) (x ++ y) :=
  ⟨by simp [h.1, k.1], fun i v u e1 e2 => by
    by_cases hi : i < a.length
    · rw [List.getElem?_append_left hi] at e1
      rw [List.getElem?_append_left (by rw [← h.1]; exact hi)] at e2
      exact h.2.1 i v u e1 e2
    · rw [List.getElem?_append_right (by omega)] at e1
      rw [List.getElem?_append_right (by rw [← h.1]; omega), ← h.1] at e2
      exact k.2.1 _ v u e1 e2, by rw [hfL_append, h.2.2, k.2.2]; rfl⟩
theorem Rl.one {W : World} {v : AV} {u : Value} (h : VR noM (FbA W) v u) (hv : hf v = true) : Rl W [v] [u] :=
  ⟨rfl, fun i a b e1 e2 => by
    cases i with
    | zero => simp at e1 e2; subst e1; subst e2; exact h
    | succ i => simp at e1, by simp [hfL, hv]⟩
section
variable {H : Type} (enc : TypeId × Value → H) (P : Program) (W : World) (sp : Nat → Bool) (held : Bool)
/-- Whatever is read as of this type: so. -/
def Rd (n : Nat) (t : TypeId) (A : List AV → Prop) : Prop := ∀ cs x, DataW.trod enc P W 0 sp held n t cs = some x → ∃ avs, A avs ∧ Rl W avs cs
variable {enc P W sp held}
theorem Rd.zero {t : TypeId} {A : List AV → Prop} : Rd enc P W sp held 0 t A := fun cs x h => by simp [DataW.trod] at h
theorem Rd.mono {n : Nat} {t : TypeId} {A B : List AV → Prop} (h : Rd enc P W sp held n t A) (k : ∀ a, A a → B a) : Rd enc P W sp held n t B := fun cs x e => by
  obtain ⟨a, h1, h2⟩ := h cs x e
  exact ⟨a, k a h1, h2⟩
theorem Rd.bool {n : Nat} {t : TypeId} (ht : P.underlying t = some .bool) : Rd enc P W sp held n t fun a => ∃ b, a = [.bool b] := fun cs x h => by
  obtain ⟨b, rfl, _⟩ := DataW.trod_bool ht h
  exact ⟨_, ⟨b, rfl⟩, Rl.one (.bool _) rfl⟩
theorem Rd.int {n : Nat} {t : TypeId} {k : IntKind} (ht : P.underlying t = some (.int k)) : Rd enc P W sp held n t fun a => ∃ z, a = [.int k z] ∧ (Lit.int k z).wf = true := fun cs x h => by
  obtain ⟨z, rfl, _, hw⟩ := DataW.trod_int ht h
  exact ⟨_, ⟨z, rfl, hw⟩, Rl.one (.int _ _) rfl⟩
theorem Rd.str {n : Nat} {t : TypeId} (ht : P.underlying t = some .string) : Rd enc P W sp held n t fun a => ∃ s, a = [.str s] ∧ s.length ≤ 9223372036854775807 ∧ ∀ b, b ∈ s → b < 256 := fun cs x h => by
  obtain ⟨s, rfl, _, h1⟩ := DataW.trod_string ht h
  refine ⟨_, ⟨s.data.toList.map UInt8.toNat, rfl, ?_, ?_⟩, Rl.one (.str _ s rfl) rfl⟩
  · simp only [maxLen] at h1
    simp
    show s.size ≤ _
    omega
  · intro b hb
    obtain ⟨u, _, rfl⟩ := List.mem_map.1 hb
    exact u.toNat_lt
theorem fcell_all {c i : Nat} {v : Value} {a : Addr} (h : W.cell? a = some v) (hc : c = a.block) (hi : i = a.off) : fcell (FbA W) c i = some v := by
  subst hc; subst hi
  unfold World.cell? at h
  split at h
  · rename_i arr e f hb
    split at h
    · cases h
    · have hlt : a.block < W.heap.size := (Array.getElem?_eq_some_iff.1 hb).1
      unfold fcell FbA FbOf
      rw [if_pos hlt, hb]
      exact h
  · cases h
theorem Rd.slice {n : Nat} {t e : TypeId} {es : Nat} {A : List AV → Prop} (ht : P.underlying t = some (.slice e)) (hs : P.cellsOf e = es) (hes : 0 < es) (ih : Rd enc P W sp held n e A) :
    Rd enc P W sp held (n + 1) t fun a => ∃ l, a = [.lst l] ∧ l.length ≤ 9223372036854775807 ∧ ∀ c, c ∈ l → A c := fun cs x h => by
  rcases DataW.trod_slice ht h with ⟨rfl, rfl⟩ | ⟨a, len, cap, elems, rest, m, hm, rfl, rfl, _, hl, hcap, hlen, hel, _⟩
  · exact ⟨_, ⟨[], rfl, by simp, fun c hc => by cases hc⟩, Rl.one .nlst rfl⟩
  · cases hm
    rw [hs] at hel
    have each : ∀ i, i < len → ∃ avs, A avs ∧ avs.length = es ∧ hfL avs = true ∧ ∀ (j : Nat) (v : AV), avs[j]? = some v → ∃ u, W.cell? ⟨a.block, a.off + (i * es + j), none⟩ = some u ∧ VR noM (FbA W) v u ∧ a.spot = none := by
      intro i hi
      have h1 := hel i hi
      rw [List.getElem?_eq_getElem (by omega)] at h1
      obtain ⟨cs, hc, hx⟩ := Option.bind_eq_some_iff.1 h1
      obtain ⟨_, q1, q2⟩ := World.cells?_some hc
      obtain ⟨avs, hA, r1, r2, r3⟩ := ih cs _ hx
      refine ⟨avs, hA, by omega, r3, fun j v e => ?_⟩
      have hj : j < es := by rw [← q1, ← r1]; exact (List.getElem?_eq_some_iff.1 e).1
      obtain ⟨u, hu⟩ : ∃ u, cs[j]? = some u := ⟨_, List.getElem?_eq_getElem (by omega)⟩
      have h3 := q2 j hj
      rw [hu] at h3
      -- the first element's first cell tells the address's form
      have hsp : a.spot = none := by
        have h0 := hel 0 (by omega)
        rw [List.getElem?_eq_getElem (by omega)] at h0
        obtain ⟨cs0, hc0, _⟩ := Option.bind_eq_some_iff.1 h0
        obtain ⟨_, p1, p2⟩ := World.cells?_some hc0
        have := p2 0 hes
        rw [List.getElem?_eq_getElem (by omega)] at this
        have := World.cell?_spot this
        simpa [Addr.add] using this
      have ha : (a.add (i * es)).add j = ⟨a.block, a.off + (i * es + j), none⟩ := by
        obtain ⟨b, o, s⟩ := a
        simp only at hsp
        subst hsp
        unfold Addr.add
        split <;> split <;> simp <;> omega
      rw [ha] at h3
      exact ⟨u, h3, r2 j v u e hu, hsp⟩
    let g (i : Nat) : List AV := if h : i < len then Classical.choose (each i h) else []
    have hg : ∀ i (h : i < len), A (g i) ∧ (g i).length = es ∧ hfL (g i) = true ∧ ∀ (j : Nat) (v : AV), (g i)[j]? = some v → ∃ u, W.cell? ⟨a.block, a.off + (i * es + j), none⟩ = some u ∧ VR noM (FbA W) v u ∧ a.spot = none := fun i h => by
      have : g i = Classical.choose (each i h) := by simp only [g, dif_pos h]
      rw [this]; exact Classical.choose_spec (each i h)
    let l := (List.range len).map g
    have hll : l.length = len := by simp [l]
    have hmem : ∀ c, c ∈ l → ∃ i, i < len ∧ c = g i := fun c hc => by
      obtain ⟨i, hi, rfl⟩ := List.mem_map.1 hc
      exact ⟨i, by simpa using hi, rfl⟩
    have hat : ∀ (i : Nat) (c : List AV), l[i]? = some c → i < len ∧ c = g i := fun i c e => by
      have hi : i < len := by rw [← hll]; exact (List.getElem?_eq_some_iff.1 e).1
      simp only [l, List.getElem?_map, List.getElem?_range hi, Option.map_some, Option.some.injEq] at e
      exact ⟨hi, e.symm⟩
    refine ⟨[.lst l], ⟨l, rfl, by rw [hll]; simp only [maxLen] at hcap; omega, fun c hc => ?_⟩, Rl.one ?_ rfl⟩
    · obtain ⟨i, hi, rfl⟩ := hmem c hc
      exact (hg i hi).1
    · have := VR.lst (m := noM) (F := FbA W) es l a cap (fun i j => (W.cell? ⟨a.block, a.off + (i * es + j), none⟩).getD undef) (fun c hc => by obtain ⟨i, hi, rfl⟩ := hmem c hc; exact (hg i hi).2.2.1) (fun hne => by
          have hpos : 0 < len := by
            rw [← hll]; exact List.length_pos_iff.2 hne
          have h1 := (hg 0 hpos).2.1
          obtain ⟨_, _, _, h2⟩ := (hg 0 hpos).2.2.2 0 _ (List.getElem?_eq_getElem (by omega))
          exact h2) (fun c hc => by obtain ⟨i, hi, rfl⟩ := hmem c hc; exact (hg i hi).2.1) (by rw [hll]; exact hl)
        (fun i c j v e1 e2 => by
          obtain ⟨hi, rfl⟩ := hat i c e1
          obtain ⟨u, h1, _, _⟩ := (hg i hi).2.2.2 j v e2
          rw [h1]
          exact fcell_all h1 rfl rfl)
        (fun i c j v e1 e2 => by
          obtain ⟨hi, rfl⟩ := hat i c e1
          obtain ⟨u, h1, h2, _⟩ := (hg i hi).2.2.2 j v e2
          rw [h1]; exact h2)
      rwa [hll] at this
/-- Fields one behind the other. -/
inductive Flds (P : Program) : Nat → List Field → List (TypeId × Nat) → Nat → Prop
  | nil (o : Nat) : Flds P o [] [] o
  | cons (o e : Nat) (f : Field) (fs : List Field) (ts : List (TypeId × Nat)) (n : Nat) (ho : f.offset = o) (hs : P.cellsOf f.type = n) (h : Flds P (o + n) fs ts e) : Flds P o (f :: fs) ((f.type, n) :: ts) e
inductive RdsL (enc : TypeId × Value → H) (P : Program) (W : World) (sp : Nat → Bool) (held : Bool) (n : Nat) : List (TypeId × Nat) → List (List AV → Prop) → Prop
  | nil : RdsL enc P W sp held n [] []
  | cons (t : TypeId) (k : Nat) (A : List AV → Prop) (ts : List (TypeId × Nat)) (As : List (List AV → Prop)) (h : Rd enc P W sp held n t A) (r : RdsL enc P W sp held n ts As) : RdsL enc P W sp held n ((t, k) :: ts) (A :: As)
def Parts : List (List AV → Prop) → List AV → Prop
  | [], a => a = []
  | A :: As, a => ∃ x y, A x ∧ Parts As y ∧ a = x ++ y
theorem Rd.struct {n : Nat} {t : TypeId} {fs : Array Field} {ts : List (TypeId × Nat)} {e : Nat} {As : List (List AV → Prop)} (ht : P.underlying t = some (.struct fs)) (hf : Flds P 0 fs.toList ts e) (he : P.cellsOf t = e) (ih : RdsL enc P W sp held n ts As) :
    Rd enc P W sp held (n + 1) t (Parts As) := fun cs x h => by
  obtain ⟨xs, m, hm, rfl, hlen, hsz, hel⟩ := DataW.trod_struct ht h
  cases hm
  have main : ∀ (l : List Field) (ts : List (TypeId × Nat)) (As : List (List AV → Prop)) (o e : Nat), Flds P o l ts e → RdsL enc P W sp held n ts As → (∀ f, f ∈ l → ∃ y, DataW.trod enc P W 0 sp held n f.type ((cs.drop f.offset).take (P.cellsOf f.type)) = some y) → e ≤ cs.length →
      o ≤ e ∧ ∃ avs, Parts As avs ∧ Rl W avs ((cs.drop o).take (e - o)) := by
    intro l
    induction l with
    | nil =>
      intro ts As o e hF hR _ _
      cases hF
      cases hR
      exact ⟨Nat.le_refl _, [], rfl, by rw [Nat.sub_self, List.take_zero]; exact .nil⟩
    | cons f l ihl =>
      intro ts As o e hF hR hh hle
      cases hF with
      | cons _ _ _ _ ts k ho hs hF =>
      cases hR with
      | cons _ _ A _ As hA hR =>
      obtain ⟨hoe, avs, h1, h2⟩ := ihl ts As (o + k) e hF hR (fun g hg => hh g (List.mem_cons_of_mem _ hg)) hle
      obtain ⟨y, hy⟩ := hh f (List.mem_cons_self ..)
      rw [ho, hs] at hy
      obtain ⟨av0, a1, a2⟩ := hA _ _ hy
      refine ⟨by omega, av0 ++ avs, ⟨av0, avs, a1, h1, rfl⟩, ?_⟩
      have := a2.app h2
      have hsplit : (cs.drop o).take k ++ (cs.drop (o + k)).take (e - (o + k)) = (cs.drop o).take (e - o) := by
        rw [show e - o = k + (e - (o + k)) by omega, List.take_add, List.drop_drop]
      rwa [hsplit] at this
  obtain ⟨_, avs, h1, h2⟩ := main fs.toList ts As 0 e hf ih (fun f hfm => by
    obtain ⟨i, hi⟩ := List.getElem?_of_mem hfm
    have hi' : fs[i]? = some f := by simpa using hi
    have := hel i f hi'
    have hlt : i < xs.length := by
      have : i < fs.size := (Array.getElem?_eq_some_iff.1 hi').1
      omega
    rw [List.getElem?_eq_getElem hlt] at this
    exact ⟨_, this⟩) (by omega)
  refine ⟨avs, h1, ?_⟩
  rw [List.drop_zero, Nat.sub_zero, List.take_of_length_le (by omega)] at h2
  exact h2
end
end Go.EV

/- From the evaluator's answer to the row's, whatever is handed in. -/
namespace Go.EV
open Go.RowKit Go.Proofs Go.ChangeShapes Go.WideShapes

theorem trodAll_stays {H : Type} {enc : TypeId × Value → H} {P : Program} (hl : laidOutB P = true) {W W' : World} (hb : Below W.heap.size W W') {sp : Nat → Bool} : ∀ {ts : List TypeId} {vs : List Value} {ds : List (DataW H)} {ps : List MemPlace},
    (ts.all fun t => P.readableRec t && decide (t < P.types.size)) = true → DataW.TrodAll enc P W 0 (fun _ => true) true ts vs ds ps → (∀ x ∈ ps, x.block < W.heap.size) → (∀ x ∈ ps, sp x.block = true) → DataW.TrodAll enc P W' 0 sp true ts vs ds ps
  | [], vs, ds, ps, _, h, _, _ => by
    obtain ⟨rfl, rfl, rfl⟩ := trodAll_nil h
    rfl
  | t :: ts, vs, ds, ps, hr, h, hlt, hsp => by
    obtain ⟨v, vs', d, ds', p, q, rfl, rfl, rfl, hd, hrest⟩ := trodAll_cons h
    simp only [List.all_cons, Bool.and_eq_true, decide_eq_true_eq] at hr
    exact trodAll_cons_mk (WideElems.Trod_stays hl hr.1.1 hr.1.2 hd (fun x hx => hb.same (hlt x (List.mem_append_left _ hx))) fun x hx => hsp x (List.mem_append_left _ hx))
      (trodAll_stays hl hb hr.2 hrest (fun x hx => hlt x (List.mem_append_right _ hx)) fun x hx => hsp x (List.mem_append_right _ hx))
theorem heap_size {W : World} (hF : Facts W) : 4 ≤ W.heap.size := by
  have h := hF.tab
  unfold Lib.TabIs World.var? at h
  rw [Tryz.gPow] at h
  simp only [Option.bind_some] at h
  cases hb : W.heap[3]? with
  | none => rw [hb] at h; cases h
  | some o => have := (Array.getElem?_eq_some_iff.1 hb).1; omega
set_option maxRecDepth 100000 in
/-- The law returns true; what was handed in reads as it did. -/
theorem open_contract {H : Type} {enc : TypeId × Value → H} {k : Nat} {fn : Func} {s : ChangeSpec} {W : World} {args : Array Value} {ds gs : List (DataW H)} {before : List MemPlace}
    (hW : DataW.Whole enc Tryz.prog fn.params.toList s.vars false W args.toList ds gs before) (hsv : s.vars = []) (hfn : s.fn H ds = { results := [.lit (.bool true)], args := ds }) (hres : fn.resultTypes = #[4]) (hread : (fn.params.toList.all fun t => Tryz.prog.readableRec t && decide (t < Tryz.prog.types.size)) = true) (hlaid : laidOutB Tryz.prog = true)
    {E : Env} (hE : EnvOk Tryz.prog E) (hp : PrimOk Fence.wide Tryz.prog (FbA W) E) {vals : List AV} (hv : VRL noM (FbA W) vals args) (hc : Cl E (.fn k []) vals [] (.bool true) []) :
    Calls Tryz.prog k args W fun e W' => ∃ v, e = .returned v ∧ s.post enc Tryz.prog fn false true false false W args v W' := by
  have hW' := hW
  obtain ⟨p, q, hA, hV, rfl, hfz, hnd⟩ := hW
  rw [hsv] at hV
  obtain ⟨rfl, rfl⟩ := trodVars_none hV
  obtain ⟨n, hn⟩ := hc
  have hcall := ev_calls (Fb := FbA W) open_wide hE hp mixS hn (WR.start W W.heap.size) hv
  refine (callsIn_wide.1 hcall).mono fun e W1 ⟨u, he, m', F', hu, hw, hg⟩ => ?_
  subst he
  cases hu
  have hb := hg.below (fun b p h => by cases h)
  have hlt : ∀ x ∈ p ++ [], x.block < W.heap.size := fun x hx => by simpa using hW'.lt x hx
  refine ⟨_, rfl, post_below (pa := p) (pv := []) hW' (fun b sp hd => ?_) (fun sp hsp => ?_) (fun sp _ => ?_) rfl hb (ok_one hres rfl (okWide_bool_mk Tryz.underlying4 _))⟩
  · rw [List.append_nil, hfn, hres]
    exact trodAll_cons_mk (shut_bool Tryz.underlying4 _) trodAll_mk0
  · rw [List.append_nil, hfn]
    exact trodAll_stays hlaid hb hread hA (fun x hx => hlt x (by simpa using hx)) fun x hx => hsp x (by simpa using hx)
  · rw [List.append_nil, hfn, hsv]
    rfl
theorem vrl_one {W : World} {a : AV} {v : Value} (h : Rl W [a] [v]) : VRL noM (FbA W) [a] #[v] := ⟨rfl, fun i x y e1 e2 => h.2.1 i x y e1 (by simpa using e2)⟩
end Go.EV

/- Patterns handed in. -/
namespace Go.EV
open Go.RowKit Go.Proofs Go.ChangeShapes Go.WideShapes
variable {H : Type} {enc : TypeId × Value → H} {W : World} {sp : Nat → Bool} {held : Bool}
def isVal4 (a : List AV) : Prop := ∃ k n s, a = [.int .i64 k, .int .i64 n, .str s] ∧ s.length ≤ mx63
def isIt (a : List AV) : Prop := ∃ x : It, a = x.av ∧ x.sm
def isIts (a : List AV) : Prop := ∃ l, a = [.lst (It.avs l)] ∧ l.length ≤ mx63 ∧ It.sms l
def isBools (a : List AV) : Prop := ∃ g, a = [.lst (gav g)]
theorem its_of : ∀ {l : List (List AV)}, (∀ c, c ∈ l → isIt c) → ∃ r, l = It.avs r ∧ It.sms r
  | [], _ => ⟨[], rfl, trivial⟩
  | c :: l, h => by
    obtain ⟨x, rfl, hx⟩ := h c (List.mem_cons_self ..)
    obtain ⟨r, rfl, hr⟩ := its_of fun c hc => h c (List.mem_cons_of_mem _ hc)
    exact ⟨x :: r, rfl, hx, hr⟩
theorem gav_of : ∀ {l : List (List AV)}, (∀ c, c ∈ l → ∃ b, c = [AV.bool b]) → ∃ g, l = gav g
  | [], _ => ⟨[], rfl⟩
  | c :: l, h => by
    obtain ⟨b, rfl⟩ := h c (List.mem_cons_self ..)
    obtain ⟨g, rfl⟩ := gav_of fun c hc => h c (List.mem_cons_of_mem _ hc)
    exact ⟨b :: g, rfl⟩
theorem rd_val4 (n : Nat) : Rd enc Tryz.prog W sp held n 34 isVal4 := by
  cases n with
  | zero => exact .zero
  | succ n =>
    refine (Rd.struct (ts := [(3, 1), (2, 1), (9, 1)]) (e := 3) Tryz.underlying34 (.cons _ _ _ _ _ _ rfl (by kernel_rfl) (.cons _ _ _ _ _ _ rfl (by kernel_rfl) (.cons _ _ _ _ _ _ rfl (by kernel_rfl) (.nil _)))) (by kernel_rfl) (.cons _ _ _ _ _ (Rd.int (k := .i64) (by kernel_rfl)) (.cons _ _ _ _ _ (Rd.int (k := .i64) (by kernel_rfl)) (.cons _ _ _ _ _ (Rd.str Tryz.underlying9) .nil)))).mono ?_
    rintro a ⟨x, y, ⟨k, rfl, _⟩, ⟨x2, y2, ⟨m, rfl, _⟩, ⟨x3, y3, ⟨s, rfl, hs, _⟩, rfl, rfl⟩, rfl⟩, rfl⟩
    exact ⟨k, m, s, rfl, hs⟩
theorem rd_bools (n : Nat) : Rd enc Tryz.prog W sp held n 39 isBools := by
  cases n with
  | zero => exact .zero
  | succ n =>
    refine (Rd.slice (es := 1) Tryz.underlying39 (by kernel_rfl) (by decide) (Rd.bool Tryz.underlying4)).mono ?_
    rintro a ⟨l, rfl, _, hh⟩
    obtain ⟨g, rfl⟩ := gav_of hh
    exact ⟨g, rfl⟩
theorem rd_items : ∀ n : Nat, Rd enc Tryz.prog W sp held n 22 isIts ∧ Rd enc Tryz.prog W sp held n 44 isIt := by
  intro n
  induction n with
  | zero => exact ⟨.zero, .zero⟩
  | succ n ih =>
    obtain ⟨h22, h44⟩ := ih
    refine ⟨?_, ?_⟩
    · refine (Rd.slice (es := 11) Tryz.underlying22 (by kernel_rfl) (by decide) h44).mono ?_
      rintro a ⟨l, rfl, hl, hh⟩
      obtain ⟨r, rfl, hr⟩ := its_of hh
      exact ⟨r, rfl, by rw [← It.len]; exact hl, hr⟩
    · refine (Rd.struct (ts := [(4, 1), (9, 1), (4, 1), (3, 1), (4, 1), (34, 3), (4, 1), (22, 1), (3, 1)]) (e := 11) Tryz.underlying44 (.cons _ _ _ _ _ _ rfl (by kernel_rfl) (.cons _ _ _ _ _ _ rfl (by kernel_rfl) (.cons _ _ _ _ _ _ rfl (by kernel_rfl) (.cons _ _ _ _ _ _ rfl (by kernel_rfl) (.cons _ _ _ _ _ _ rfl (by kernel_rfl) (.cons _ _ _ _ _ _ rfl (by kernel_rfl) (.cons _ _ _ _ _ _ rfl (by kernel_rfl) (.cons _ _ _ _ _ _ rfl (by kernel_rfl) (.cons _ _ _ _ _ _ rfl (by kernel_rfl) (.nil _)))))))))) (by kernel_rfl) (.cons _ _ _ _ _ (Rd.bool Tryz.underlying4) (.cons _ _ _ _ _ (Rd.str Tryz.underlying9) (.cons _ _ _ _ _ (Rd.bool Tryz.underlying4) (.cons _ _ _ _ _ (Rd.int (k := .i64) (by kernel_rfl)) (.cons _ _ _ _ _ (Rd.bool Tryz.underlying4) (.cons _ _ _ _ _ (rd_val4 n) (.cons _ _ _ _ _ (Rd.bool Tryz.underlying4) (.cons _ _ _ _ _ h22 (.cons _ _ _ _ _ (Rd.int (k := .i64) (by kernel_rfl)) .nil)))))))))).mono ?_
      rintro a ⟨x1, y1, ⟨w, rfl⟩, ⟨x2, y2, ⟨s, rfl, hs, _⟩, ⟨x3, y3, ⟨b, rfl⟩, ⟨x4, y4, ⟨li, rfl, _⟩, ⟨x5, y5, ⟨hh, rfl⟩, ⟨x6, y6, ⟨dk, dn, ds, rfl, hds⟩, ⟨x7, y7, ⟨nn, rfl⟩, ⟨x8, y8, ⟨l, rfl, hl, hlm⟩, ⟨x9, y9, ⟨r, rfl, _⟩, rfl, rfl⟩, rfl⟩, rfl⟩, rfl⟩, rfl⟩, rfl⟩, rfl⟩, rfl⟩, rfl⟩
      exact ⟨.mk w s b li hh dk dn ds nn l r, rfl, hs, hds, hl, hlm⟩
end Go.EV
