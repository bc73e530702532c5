/- The pure machine: its steps. -/
import Derived.Test.YtkcabichlinkmaaGreatDoorHPA
import Derived.KernelRfl
namespace Go.EV

/-! ## What operations touch -/
mutual
theorem AV.beq_rfl : ∀ a : AV, AV.beq a a = true
  | .und => rfl
  | .bool x => by simp [AV.beq]
  | .int k n => by simp [AV.beq]
  | .str s => by simp [AV.beq]
  | .nilp => rfl
  | .ptr x y => by simp [AV.beq]
  | .cptr x y => by simp [AV.beq, AV.beqL_rfl x]
  | .nils => rfl
  | .emp => rfl
  | .lst x => by simp [AV.beq, AV.beqLL_rfl x]
  | .sl x y z u => by simp [AV.beq]
  | .nilm => rfl
  | .map x => by simp [AV.beq]
  | .nilf => rfl
  | .fn x y => by simp [AV.beq, AV.beqL_rfl y]
  | .yld x => by simp [AV.beq]
  | .nili => rfl
  | .err => rfl
  | .iface x y => by simp [AV.beq, AV.beq_rfl y]
  | .agg x => by simp [AV.beq, AV.beqL_rfl x]
  | .tup x => by simp [AV.beq, AV.beqL_rfl x]
  | .own s t l => by simp [AV.beq, AV.beqLL_rfl l]
theorem AV.beqL_rfl : ∀ a : List AV, AV.beqL a a = true
  | [] => rfl
  | a :: x => by simp [AV.beqL, AV.beq_rfl a, AV.beqL_rfl x]
theorem AV.beqLL_rfl : ∀ a : List (List AV), AV.beqLL a a = true
  | [] => rfl
  | a :: x => by simp [AV.beqLL, AV.beqL_rfl a, AV.beqLL_rfl x]
end
inductive T1 (W : Wd) : Tch → Tch → Prop
  | all (x : Tch) : T1 W .all x
  | no : T1 W .no .no
  | rd (b b' o n : Nat) (h : W.r b = some b') : T1 W (.rd b o n) (.rd b' o n)
  | wr (b b' o n : Nat) (h : W.r b = some b') : T1 W (.wr b o n) (.wr b' o n)
  | mk (b b' : Nat) (h : W.r b = some b') : T1 W (.mk b) (.mk b')
  /-- What is frozen is read. -/
  | zn : T1 W (.rd 1000000 0 0) .no
  | zr (b o n : Nat) (c : List AV) (h : W.z b = some c) : T1 W (.rd 1000000 0 0) (.rd b o n)
/-- The one's block and the other's have one form. -/
def sameK : Blk → Blk → Prop
  | .cells 1 ty _, .cells 1 ty' _ => ty = ty'
  | .map es, .map es' => es.length = es'.length
  | _, _ => False
inductive T2 (W : Wd) (H G : Hp) : Tch → Tch → Prop
  | all (x : Tch) : T2 W H G .all x
  | no (x : Tch) : T2 W H G x .no
  | wr (b b' o n : Nat) (h : W.r b = some b') : T2 W H G (.wr b o n) (.wr b' o n)
  | del (y : Nat) (h : ∀ b b', W.r b = some b' → b' ≠ y) (hy : y < G.length) : T2 W H G (.del 1000000) (.del y)
  | hp (H0 H1 G0 G1 : Hp) (hq : H0.length ≤ 1000000) (hl : H0.length ≤ H.length) (h : ∀ b b' k, W.r b = some b' → H0[b]? = some k → ((∃ st ty cs, k = .cells st ty cs) ∨ ∃ es, k = .map es) → ∃ k', G0[b']? = some k' ∧ G1[b']? = some k' ∧ sameK k k') : T2 W H G (.hp H0 H1) (.hp G0 G1)
theorem T1.nx {W W' : Wd} (h : ∀ b b', W.r b = some b' → W'.r b = some b') (hz : ∀ b c, W.z b = some c → W'.z b = some c) {a a' : Tch} (t : T1 W a a') : T1 W' a a' := by
  cases t with
  | all _ => exact .all _
  | no => exact .no
  | rd b b' o n e => exact .rd b b' o n (h _ _ e)
  | wr b b' o n e => exact .wr b b' o n (h _ _ e)
  | mk b b' e => exact .mk b b' (h _ _ e)
  | zn => exact .zn
  | zr b o n c e => exact .zr b o n c (hz _ _ e)
theorem T2.nx {W W' : Wd} {H G H1 G1 : Hp} (h : Nx W H G W' H1 G1) {a a' : Tch} (t : T2 W H G a a') : T2 W' H1 G1 a a' := by
  cases t with
  | all _ => exact .all _
  | no _ => exact .no _
  | wr b b' o n e => exact .wr b b' o n (h.r _ _ e)
  | del y e hy =>
    refine .del y (fun b b' e1 => ?_) (Nat.lt_of_lt_of_le hy h.gl)
    rcases h.nw b b' e1 with e2 | ⟨_, e2⟩
    · exact e b b' e2
    · omega
  | hp H0 H2 G0 G2 hq hl hh =>
    refine .hp H0 H2 G0 G2 hq (Nat.le_trans hl h.hl) fun b b' k e1 e2 e3 => ?_
    rcases h.nw b b' e1 with e | ⟨e, _⟩
    · exact hh b b' k e e2 e3
    · have := (List.getElem?_eq_some_iff.1 e2).1; omega
theorem calm_sim {W : Wd} {H G : Hp} (hs : Sm W H G) {a a' c c' : Tch} (h1 : T1 W a a') (h2 : T2 W H G c c') (e : calm a c = true) : calm a' c' = true := by
  cases h2 with
  | no x => cases a' <;> rfl
  | all x =>
    cases h1 <;> first | (cases e; done) | skip
    all_goals (cases c' <;> rfl)
  | wr b b' o n hb =>
    cases h1 with
    | all x => cases e
    | no => rfl
    | rd x x' o' n' hx =>
      simp only [calm, Bool.or_eq_true, decide_eq_true_eq] at e ⊢
      rcases e with (e | e) | e
      · exact .inl (.inl fun k => e (hs.bi x b x' hx (by rw [k]; exact hb)))
      · exact .inl (.inr e)
      · exact .inr e
    | wr x x' o' n' hx =>
      simp only [calm, Bool.or_eq_true, decide_eq_true_eq] at e ⊢
      rcases e with (e | e) | e
      · exact .inl (.inl fun k => e (hs.bi x b x' hx (by rw [k]; exact hb)))
      · exact .inl (.inr e)
      · exact .inr e
    | mk x x' hx =>
      simp only [calm, decide_eq_true_eq] at e ⊢
      exact fun k => e (hs.bi x b x' hx (by rw [k]; exact hb))
    | zn => rfl
    | zr x o' n' c hz =>
      simp only [calm, Bool.or_eq_true, decide_eq_true_eq]
      exact .inl (.inl fun k => by subst k; rw [hs.zb b x hb] at hz; cases hz)
  | del y hh hy =>
    cases h1 with
    | all x => cases e
    | no => rfl
    | zn => simp [calm] at e
    | zr _ _ _ _ _ => simp [calm] at e
    | rd b b' o n hb => simp only [calm, decide_eq_true_eq]; exact hh b b' hb
    | wr b b' o n hb => cases e
    | mk b b' hb => simp only [calm, decide_eq_true_eq]; exact hh b b' hb
  | hp H0 H1 G0 G1 hq hl hh =>
    cases h1 with
    | all x => cases e
    | no => rfl
    | wr b b' o n hb => cases e
    | zn => rfl
    | zr b o n c hz =>
      exfalso
      have : H0[1000000]? = none := List.getElem?_eq_none hq
      simp only [calm, this] at e
      cases e
    | rd b b' o n hb =>
      simp only [calm] at e
      split at e
      · rename_i st ty cs st' ty' cs' e1 e2
        obtain ⟨k', q1, q2, q3⟩ := hh b b' _ hb e1 (.inl ⟨_, _, _, rfl⟩)
        cases k' <;> first | (exfalso; unfold sameK at q3; split at q3 <;> simp_all; done) | skip
        simp only [calm, q1, q2, AV.beqL_rfl, decide_true, Bool.and_self]
      · cases e
    | mk b b' hb =>
      simp only [calm] at e
      split at e
      · rename_i st ty cs st' ty' cs' e1 e2
        obtain ⟨k', q1, q2, q3⟩ := hh b b' _ hb e1 (.inl ⟨_, _, _, rfl⟩)
        cases k' <;> first | (exfalso; unfold sameK at q3; split at q3 <;> simp_all; done) | skip
        simp only [calm, q1, q2, AV.beqL_rfl, decide_true, Bool.and_self]
      · rename_i e1 e2
        obtain ⟨k', q1, q2, q3⟩ := hh b b' _ hb e1 (.inr ⟨_, rfl⟩)
        cases k' with
        | map es =>
          have : es = [] := by
            cases es with
            | nil => rfl
            | cons _ _ => simp [sameK] at q3
          subst this
          simp only [calm, q1, q2]
        | _ => simp [sameK] at q3
      · cases e
def TS (W : Wd) (H G : Hp) (ts ts' : List (Tch × Tch)) : Prop := ts.length = ts'.length ∧ ∀ (i : Nat) (a a' : Tch × Tch), ts[i]? = some a → ts'[i]? = some a' → T1 W a.1 a'.1 ∧ T2 W H G a.2 a'.2
theorem TS.nil {W : Wd} {H G : Hp} : TS W H G [] [] := ⟨rfl, fun i a a' h => by simp at h⟩
theorem TS.cons {W : Wd} {H G : Hp} {a a' : Tch × Tch} {ts ts' : List (Tch × Tch)} (h1 : T1 W a.1 a'.1) (h2 : T2 W H G a.2 a'.2) (h : TS W H G ts ts') : TS W H G (a :: ts) (a' :: ts') :=
  ⟨by simp [h.1], fun i x x' e1 e2 => by
    cases i with
    | zero => simp at e1 e2; subst e1; subst e2; exact ⟨h1, h2⟩
    | succ i => exact h.2 i x x' (by simpa using e1) (by simpa using e2)⟩
theorem TS.nx {W W' : Wd} {H G H1 G1 : Hp} (h : Nx W H G W' H1 G1) {ts ts' : List (Tch × Tch)} (t : TS W H G ts ts') : TS W' H1 G1 ts ts' :=
  ⟨t.1, fun i a a' e1 e2 => ⟨(t.2 i a a' e1 e2).1.nx h.r h.z, (t.2 i a a' e1 e2).2.nx h⟩⟩
theorem TS.rev {W : Wd} {H G : Hp} {ts ts' : List (Tch × Tch)} (t : TS W H G ts ts') : TS W H G ts.reverse ts'.reverse := by
  refine ⟨by simp [t.1], fun i a a' e1 e2 => ?_⟩
  have hi : i < ts.length := by have := (List.getElem?_eq_some_iff.1 e1).1; simpa using this
  rw [List.getElem?_reverse hi] at e1
  rw [List.getElem?_reverse (by rw [← t.1]; exact hi), ← t.1] at e2
  exact t.2 _ a a' e1 e2
theorem flOk_sim {W : Wd} {H G : Hp} (hs : Sm W H G) {ops : List CO} {ts ts' : List (Tch × Tch)} (t : TS W H G ts ts') (e : flOk ops ts = true) : flOk ops ts' = true := by
  unfold flOk at e ⊢
  rw [List.all_eq_true] at e ⊢
  rintro ⟨o, a'⟩ hm
  obtain ⟨i, hi⟩ := List.getElem?_of_mem hm
  rw [List.getElem?_zip_eq_some] at hi
  obtain ⟨h1, h2⟩ := hi
  have hlt : i < ts.length := by rw [t.1]; exact (List.getElem?_eq_some_iff.1 h2).1
  have ha := List.getElem?_eq_getElem hlt
  have := e (o, ts[i]) (List.mem_of_getElem? (List.getElem?_zip_eq_some.2 ⟨h1, ha⟩))
  simp only [List.all_eq_true] at this ⊢
  intro j hj
  refine calm_sim hs (t.2 i _ a' ha h2).1 ?_ (this j hj)
  rw [List.getD_eq_getElem?_getD, List.getD_eq_getElem?_getD]
  cases ej : ts[j]? with
  | none =>
    have : ts'[j]? = none := by rw [List.getElem?_eq_none_iff] at ej ⊢; rw [← t.1]; exact ej
    rw [this]; exact .all _
  | some c =>
    have hj2 : j < ts'.length := by rw [← t.1]; exact (List.getElem?_eq_some_iff.1 ej).1
    rw [List.getElem?_eq_getElem hj2]
    exact (t.2 j c _ ej (List.getElem?_eq_getElem hj2)).2

/-! ## Operations -/
def plainI (f : Fr) (H : Hp) (i : CI) : Option (AV × Fr × Hp) := match evI f H i with | some (v, H1) => some (v, f, H1) | none => none
def loadI (f : Fr) (H : Hp) (i : CI) : AV → Option (AV × Fr × Hp)
  | .cptr _ _ => match evI f H i with | some (v, H1) => bif hf v then some (v, f, H1) else none | none => none
  | _ => plainI f H i
def lenI (f : Fr) (H : Hp) (i : CI) (k : Nat) : AV → Option (AV × Fr × Hp)
  | .own _ _ l => bif Nat.beq k 1 then some (.int .i64 l.length, f, H) else none
  | _ => plainI f H i
def iaddrI (f : Fr) (H : Hp) (i : CI) (es : Nat) (n : AV) : AV → Option (AV × Fr × Hp)
  | .own t _ l => match evIaddr es (.lst l) n with
    | some v => some (v, mtF (rtS (Nat.beq t)) f, mtH (rtS (Nat.beq t)) H)
    | none => none
  | _ => plainI f H i
def ownNil : AV → AV → Bool
  | .own _ _ (_ :: _), .nils => true
  | _, _ => false
def binI (f : Fr) (H : Hp) (i : CI) (o : BinOp) (x y : AV) : EqK → Option (AV × Fr × Hp)
  | .slice => bif ownNil x y then (match eqOp o (some false) with | some v => some (v, f, H) | none => none) else plainI f H i
  | _ => plainI f H i
def litI (s : Nat) (f : Fr) (H : Hp) (ty es n : Nat) : Option (List AV) → Option (AV × Fr × Hp)
  | some cs => bif gfL (frV (fun t => memN (toksL cs) t || Nat.beq t s) cs) && Nat.beq cs.length (n * es) then
      some (.own s ty (chunks es (frV (fun t => memN (toksL cs) t || Nat.beq t s) cs) 0 n), mtF (rtS fun t => memN (toksL cs) t || Nat.beq t s) f, mtH (rtS fun t => memN (toksL cs) t || Nat.beq t s) H) else none
  | none => none
def pI (s : Nat) (f : Fr) (H : Hp) (i : CI) : Option (AV × Fr × Hp) :=
  bif opOk i then
    match i with
    | .len k x => lenI f H i k (x.ev f)
    | .load _ _ x => loadI f H i (x.ev f)
    | .iaddr es x n => iaddrI f H i es (n.ev f) (x.ev f)
    | .bin o k x y => binI f H i o (x.ev f) (y.ev f) k
    | .bslice ty es z (n + 1) ps => litI s f H ty es (n + 1) (evBuildS f es ps (rep z (n + 1)))
    | _ => plainI f H i
  else none
def PSim (W : Wd) (f' : Fr) (H G : Hp) (i : CI) (v : AV) (f1 : Fr) (H1 : Hp) : Prop := ∃ W' v' G1, evI f' G i = some (v', G1) ∧ VS W' v v' ∧ FS W' f1 f' ∧ Nx W H G W' H1 G1
theorem plainI_sim {W : Wd} {f f' : Fr} {H G : Hp} (hf_ : FS W f f') (hs : Sm W H G) {i : CI} (hok : opOk i = true) (hb : ∀ ty es z len ps, i ≠ .bslice ty es z (len + 1) ps) {v : AV} {f1 : Fr} {H1 : Hp} (hl : ∀ n ag x cs o, i = .load n ag x → x.ev f = .cptr cs o → hf v = true) (e : plainI f H i = some (v, f1, H1)) : PSim W f' H G i v f1 H1 := by
  unfold plainI at e
  split at e
  · rename_i v0 H0 h0
    cases e
    obtain ⟨W', v', G1, h1, h2, h3, h4⟩ := evI_sim hf_ hs hok hb hl h0
    exact ⟨W', v', G1, h1, h2, hf_.up h4, h3⟩
  · cases e
theorem Sm.ret_nx {W : Wd} {H G : Hp} (hs : Sm W H G) (S : Nat → Bool) : Nx W H G (W.ret S G) (mtH (rtS S) H) G :=
  ⟨fun _ _ e => e, (Wd.ret_z (S := S) hs).1, fun _ _ e => .inl e, hs.ret S, by rw [mtH_map, List.length_map]; exact Nat.le_refl _, Nat.le_refl _, fun c _ hf => ⟨Wd.ret_free hf, rfl⟩⟩
theorem Nx.trans {W W1 W2 : Wd} {H G H1 G1 H2 G2 : Hp} (h : Nx W H G W1 H1 G1) (k : Nx W1 H1 G1 W2 H2 G2) : Nx W H G W2 H2 G2 :=
  ⟨fun b b' e => k.r b b' (h.r b b' e), fun b c e => k.z b c (h.z b c e), fun b b' e => by
    rcases k.nw b b' e with e | ⟨e1, e2⟩
    · exact h.nw b b' e
    · have := h.hl; have := h.gl; exact .inr ⟨by omega, by omega⟩, k.sm, Nat.le_trans h.hl k.hl, Nat.le_trans h.gl k.gl, h.fre.trans h.gl k.fre⟩
theorem pI_sim {W : Wd} {s : Nat} {f f' : Fr} {H G : Hp} (hf_ : FS W f f') (hs : Sm W H G) {i : CI} {v : AV} {f1 : Fr} {H1 : Hp} (e : pI s f H i = some (v, f1, H1)) : PSim W f' H G i v f1 H1 := by
  unfold pI at e
  cases hok : opOk i with
  | false => rw [hok] at e; cases e
  | true =>
  rw [hok] at e
  simp only [cond_true] at e
  split at e
  · rename_i k x
    unfold lenI at e
    split at e
    · rename_i t ty l hx
      have h1 := cx_rel hf_ (x := x) hok
      rw [hx] at h1
      cases hk : Nat.beq k 1 with
      | false => rw [hk] at e; cases e
      | true =>
        rw [hk] at e
        cases e
        have hk := Nat.eq_of_beq_eq_true hk
        subst hk
        have hq : ∀ y, VS W (.own t ty l) y → lenOk 1 y = true ∧ evLen G y = some l.length := fun y hy => by
          cases hy with
          | eq _ h => cases h
          | ownn _ _ => exact ⟨rfl, rfl⟩
          | owne _ _ => exact ⟨rfl, rfl⟩
          | own _ _ _ _ => exact ⟨rfl, rfl⟩
        obtain ⟨q1, q2⟩ := hq _ h1
        exact ⟨W, .int .i64 l.length, G, by simp only [evI, q1, q2]; rfl, .eq _ rfl, hf_, .refl hs⟩
    · exact plainI_sim hf_ hs hok (by intros; simp) (by intro _ _ _ _ _ h; cases h) e
  · rename_i n ag x
    unfold loadI at e
    split at e
    · rename_i cs o hx
      split at e
      · rename_i v0 H0 h0
        cases hv : hf v0 with
        | false => rw [hv] at e; cases e
        | true =>
          rw [hv] at e
          cases e
          obtain ⟨W', v', G1, h1, h2, h3, h4⟩ := evI_sim hf_ hs hok (by intros; simp) (fun _ _ _ _ _ _ _ => hv) h0
          exact ⟨W', v', G1, h1, h2, hf_.up h4, h3⟩
      · cases e
    · rename_i hx
      exact plainI_sim hf_ hs hok (by intros; simp) (by intro _ _ _ cs o h1 h2; cases h1; exact absurd h2 (hx cs o)) e
  · rename_i es x n
    unfold iaddrI at e
    split at e
    · rename_i t ty l hx
      split at e
      · rename_i v0 h0
        cases e
        simp only [opOk, Bool.and_eq_true] at hok
        have h1 := cx_rel hf_ (x := x) hok.1
        have h2 := cx_rel hf_ (x := n) hok.2
        rw [hx] at h1
        have g := ret_goes hs (Nat.beq t)
        have h3 := h1.go g
        have h4 : mt (rtS (Nat.beq t)) (.own t ty l) = .lst l := by simp [mt, rtS]
        rw [h4] at h3
        have h5 : VS (W.ret (Nat.beq t) G) (n.ev f) (n.ev f') := by
          have hi : ∃ k z, n.ev f = .int k z := by
            unfold evIaddr at h0
            split at h0
            · exact ⟨_, _, ‹_›⟩
            · cases h0
          obtain ⟨k, z, hi⟩ := hi
          rw [hi] at h2 ⊢
          rw [h2.int_inv]; exact .eq _ rfl
        obtain ⟨v', q1, q2⟩ := evIaddr_sim h3 h5 h0
        exact ⟨_, v', G, by simp only [evI, q1, Option.map_some], q2, hf_.go g, hs.ret_nx _⟩
      · cases e
    · exact plainI_sim hf_ hs hok (by intros; simp) (by intro _ _ _ _ _ h; cases h) e
  · rename_i o k x y
    have pl : plainI f H (.bin o k x y) = some (v, f1, H1) → PSim W f' H G (.bin o k x y) v f1 H1 := plainI_sim hf_ hs hok (by intros; simp) (by intro _ _ _ _ _ h; cases h)
    unfold binI at e
    split at e
    · cases hn : ownNil (x.ev f) (y.ev f) with
      | false => rw [hn] at e; exact pl e
      | true =>
        rw [hn] at e
        simp only [cond_true] at e
        split at e
        · rename_i v0 h0
          cases e
          simp only [opOk, Bool.and_eq_true] at hok
          have h1 := cx_rel hf_ (x := x) hok.1
          have h2 := cx_rel hf_ (x := y) hok.2
          unfold ownNil at hn
          split at hn
          · rename_i t ty c r hx hy
            rw [hx] at h1
            rw [hy] at h2
            have hy' : y.ev f' = .nils := rg_eq rfl h2
            have hx' : ∃ es b n, x.ev f' = .sl es b 0 n := by
              have : ∀ z, VS W (.own t ty (c :: r)) z → ∃ es b n, z = .sl es b 0 n := fun z hz => by
                generalize hl : c :: r = l at hz
                cases hz with
                | eq _ h => cases h
                | ownn _ _ => cases hl
                | owne _ _ => cases hl
                | own s t h hn => exact ⟨_, _, _, rfl⟩
              exact this _ h1
            obtain ⟨es, b, n, hx'⟩ := hx'
            have : evBin o .slice (.sl es b 0 n) .nils = some v := h0
            exact ⟨W, v, G, by simp only [evI, hx', hy', this, Option.map_some], rg_VS (eqOp_some h0).choose_spec.2, hf_, .refl hs⟩
          · cases hn
        · cases e
    · exact pl e
  · rename_i ty es z n ps
    unfold litI at e
    split at e
    · rename_i cs hcs
      generalize hS : (fun t => memN (toksL cs) t || Nat.beq t s) = S at e
      cases hc : (gfL (frV S cs) && Nat.beq cs.length ((n + 1) * es)) with
      | false => rw [hc] at e; cases e
      | true =>
        rw [hc] at e
        cases e
        simp only [Bool.and_eq_true] at hc
        simp only [opOk, Bool.and_eq_true] at hok
        obtain ⟨cs', q1, q2⟩ := evBuildS_sim hf_ hok.2 (rep_sim (.eq hok.1) (n + 1)) hcs
        have hr := frV_VS hs q2 S
        have hlen : (frV S cs).length = (n + 1) * es := by
          rw [hr.1, ← q2.1]; exact Nat.eq_of_beq_eq_true hc.2
        have nx := hs.ret_nx S
        have hg : Sm (W.ret S G) (mtH (rtS S) H) (G ++ [.cells 1 ty cs']) := by
          have := nx.sm.grow [] [.cells 1 ty cs']
          rwa [List.append_nil] at this
        have hn : (W.ret S G).t s = none := by
          show (bif S s then Option.none else W.t s) = none
          rw [← hS]; simp
        have tk := tk_lit (ty := ty) (b := G.length) (G := G ++ [.cells 1 ty cs']) (by omega) hc.1 hlen (by simp) hr
        have fr : (W.ret S G).free G.length := nx.sm.end_free (Nat.le_refl _)
        have up := Wd.newt_up (t := ⟨es, ty, G.length, chunks es (frV S cs) 0 (n + 1)⟩) hn
        refine ⟨_, .sl es G.length 0 (n + 1), G ++ [.cells 1 ty cs'], by simp only [evI, q1, Option.map_some, Nat.succ_ne_zero, if_false], ?_, (hf_.go (ret_goes hs S)).up up, ?_⟩
        · have := VS.own (W := (W.ret S G).newt s ⟨es, ty, G.length, chunks es (frV S cs) 0 (n + 1)⟩) s ⟨es, ty, G.length, chunks es (frV S cs) 0 (n + 1)⟩ (by
            show (if s = s then some _ else _) = some _
            rw [if_pos rfl]) tk.ne
          simpa only [chunks_len] using this
        · exact ⟨nx.r, nx.z, nx.nw, hg.newt hn fr tk, nx.hl, by simp, fun c hc hf => ⟨Wd.newt_free (nx.fre c hc hf).1 (by show G.length ≠ c; omega), List.getElem?_append_left hc⟩⟩
    · cases e
  · rename_i h1 h2 h3 h4 h5
    exact plainI_sim hf_ hs hok (fun ty es z len ps h => h5 ty es z len ps h) (fun n ag x _ _ h => absurd h (h2 n ag x)) e
end Go.EV

/- The pure machine: runs. -/
namespace Go.EV

/-! ## States -/
def noD : List Kt → Bool
  | [] => true
  | .dops _ _ _ :: _ => false
  | _ :: r => noD r
inductive KS (W : Wd) (H G : Hp) : List Kt → List Kt → Prop
  | same (k : List Kt) (h : noD k = true) : KS W H G k k
  | dops (l all : List CO) (ts ts' : List (Tch × Tch)) (r : List Kt) (h : noD r = true) (t : TS W H G ts ts') : KS W H G (.dops l all ts :: r) (.dops l all ts' :: r)
theorem KS.nx {W W' : Wd} {H G H1 G1 : Hp} (h : Nx W H G W' H1 G1) {k k' : List Kt} (t : KS W H G k k') : KS W' H1 G1 k k' := by
  cases t with
  | same k e => exact .same _ e
  | dops l all ts ts' r e t => exact .dops l all ts ts' r e (t.nx h)
structure SS (W : Wd) (s s' : St) : Prop where
  k : KS W s.H s'.H s.k s'.k
  e : s'.e = s.e
  fs : FS W s.f s'.f
  hs : Sm W s.H s'.H
theorem wanted_sim {W : Wd} {f f' : Fr} (h : FS W f f') {g : Option (Pth × Bool)} {b : Bool} (e : wanted g f = some b) : wanted g f' = some b := by
  unfold wanted at e ⊢
  cases g with
  | none => exact e
  | some g =>
    obtain ⟨p, t⟩ := g
    simp only at e ⊢
    cases hp : f.get p with
    | none => rw [hp] at e; cases e
    | some v =>
      rw [hp] at e
      obtain ⟨v', h1, h2⟩ := h p v hp
      rw [h1]
      cases v with
      | und => cases e
      | bool c => rw [h2.bool_inv]; exact e
      | _ => cases h2 <;> exact e
theorem FS.putD {W : Wd} {f f' : Fr} (h : FS W f f') (d : Option Pth) {v v' : AV} (hv : VS W v v') : FS W (EV.putD d v f) (EV.putD d v' f') := by
  cases d with
  | none => exact h
  | some p => exact h.set p hv

def PQ (W : Wd) (G0 : Hp) (n0 : Nat) (Q : Ex → Fr → Hp → Prop) : Ex → Fr → Hp → Prop := fun e f' G => ∃ W' f H, FS W' f f' ∧ Sm W' H G ∧ (n0 ≤ H.length ∧ ∀ b, b < n0 → W'.r b = W.r b) ∧ (∀ b c, W.z b = some c → W'.z b = some c) ∧ Fre W G0 W' G ∧ G0.length ≤ G.length ∧ Q e f H
/-- However the evaluator's state looks: from there the run ends so. -/
def Pk (E : Env) (n0 : Nat) (s : St) (Q : Ex → Fr → Hp → Prop) : Prop := n0 ≤ s.H.length → ∀ W s', SS W s s' → Rk E s' (PQ W s'.H n0 Q)
theorem PQ.mono {W W1 : Wd} {G0 G1 : Hp} {n0 : Nat} {Q : Ex → Fr → Hp → Prop} (hr : ∀ b, b < n0 → W1.r b = W.r b) (hz : ∀ b c, W.z b = some c → W1.z b = some c) (hf : Fre W G0 W1 G1) (hl : G0.length ≤ G1.length) {e : Ex} {f : Fr} {G : Hp} (h : PQ W1 G1 n0 Q e f G) : PQ W G0 n0 Q e f G := by
  obtain ⟨W', f1, H1, a, b, c, d, fr, le, q⟩ := h
  exact ⟨W', f1, H1, a, b, ⟨c.1, fun x hx => (c.2 x hx).trans (hr x hx)⟩, fun x x' e => d x x' (hz x x' e), hf.trans hl fr, by omega, q⟩
/-- Below the heap's end nothing new is a box. -/
theorem Nx.eqr {W : Wd} {H G : Hp} {W' : Wd} {H1 G1 : Hp} (h : Nx W H G W' H1 G1) {b : Nat} (hb : b < H.length) : W'.r b = W.r b := by
  cases e : W.r b with
  | some b' => exact h.r b b' e
  | none =>
    cases e2 : W'.r b with
    | none => rfl
    | some b' =>
      rcases h.nw b b' e2 with e3 | ⟨e3, _⟩
      · rw [e] at e3; cases e3
      · omega
theorem Pk.weak {E : Env} {n0 : Nat} {s : St} {Q Q' : Ex → Fr → Hp → Prop} (r : Pk E n0 s Q) (h : ∀ e f H, Q e f H → Q' e f H) : Pk E n0 s Q' := fun hl W s' hs =>
  (r hl W s' hs).weak fun _ _ _ ⟨W', f1, H1, a, b, c, d, fr, le, q⟩ => ⟨W', f1, H1, a, b, c, d, fr, le, h _ _ _ q⟩
theorem noD_app : ∀ (c k : List Kt), noD (c ++ k) = true → noD c = true ∧ noD k = true
  | [], k, h => ⟨rfl, h⟩
  | .code _ :: c, k, h => noD_app c k h
  | .blk _ :: c, k, h => noD_app c k h
  | .ops _ :: c, k, h => noD_app c k h
  | .dops _ _ _ :: c, k, h => by cases h
theorem noD_app2 : ∀ (c k : List Kt), noD c = true → noD k = true → noD (c ++ k) = true
  | [], k, _, h => h
  | .code _ :: c, k, h, h2 => noD_app2 c k h h2
  | .blk _ :: c, k, h, h2 => noD_app2 c k h h2
  | .ops _ :: c, k, h, h2 => noD_app2 c k h h2
  | .dops _ _ _ :: c, k, h, _ => by cases h
/-- A part of the way, then the rest. -/
theorem Pk.trans {E : Env} {n0 : Nat} {Q : Ex → Fr → Hp → Prop} {c k : List Kt} {e : Ex} {f : Fr} {H : Hp} (hc : noD (c ++ k) = true) (r : Pk E n0 ⟨c, e, f, H⟩ fun e1 f1 H1 => Pk E n0 ⟨k, e1, f1, H1⟩ Q) : Pk E n0 ⟨c ++ k, e, f, H⟩ Q := by
  intro hl W s' hs
  obtain ⟨k', e', f', G⟩ := s'
  obtain ⟨h1, h2, h3, h4⟩ := hs
  simp only at h1 h2 h3 h4
  subst h2
  obtain ⟨hn1, hn2⟩ := noD_app c k hc
  have hk : k' = c ++ k := by
    generalize hck : c ++ k = ck at h1 hc
    cases h1 with
    | same _ _ => rfl
    | dops l all ts ts' r _ _ => cases hc
  subst hk
  refine Rk.trans ((r hl W ⟨c, e', f', G⟩ ⟨.same _ hn1, rfl, h3, h4⟩).weak ?_)
  rintro e1 f1 G1 ⟨W', f2, H2, a, b, c', d, fr, le, q⟩
  exact (q c'.1 W' ⟨k, e1, f1, G1⟩ ⟨.same _ hn2, rfl, a, b⟩).weak fun _ _ _ => PQ.mono c'.2 d fr le
theorem Pk.done {E : Env} {n0 : Nat} {Q : Ex → Fr → Hp → Prop} {s : St} (h : s.k.isEmpty = true) (q : Q s.e s.f s.H) : Pk E n0 s Q := by
  intro hl W s' hs
  have hk : s.k = [] := by simpa using h
  have hk' : s'.k = [] := by
    have := hs.k
    rw [hk] at this
    cases h2 : s'.k with
    | nil => rfl
    | cons x r => rw [h2] at this; cases this
  exact Rk.done (by rw [hk']; rfl) ⟨W, s.f, s.H, hs.fs, hs.hs, ⟨hl, fun _ _ => rfl⟩, fun _ _ e => e, .refl W _, Nat.le_refl _, by rw [hs.e]; exact q⟩

/-! ## Operations -/
def ptouch (f : Fr) (H : Hp) : CI → Tch × Tch
  | .load n _ x => match x.ev f with | .ptr b o => (.rd b o n, .no) | .cptr _ _ => (.rd 1000000 0 0, .no) | _ => (.all, .no)
  | .store n x _ => match x.ev f with | .ptr b o => (.wr b o n, .wr b o n) | _ => (.all, .all)
  | .alloc _ _ => (.mk H.length, .no)
  | .box _ _ => (.mk H.length, .no)
  | .mkmap => (.mk H.length, .no)
  | .len _ x => match x.ev f with | .map _ => (.all, .no) | .und => (.all, .no) | _ => (.no, .no)
  | .bslice _ _ _ _ _ => (.all, .no)
  | .b2s _ => (.all, .all)
  | .lookup _ _ _ _ _ => (.all, .all)
  | .mapup _ _ _ _ => (.all, .all)
  | .append _ _ _ _ => (.all, .all)
  | .clear _ _ _ => (.all, .all)
  | .call _ _ => (.all, .all)
  | _ => (.no, .no)
theorem touch_sim {E : Env} {W W' : Wd} {f f' : Fr} {H G H1 G1 : Hp} (hf_ : FS W f f') {i : CI} (hok : opOk i = true) {v v' : AV} (he : evI f' G i = some (v', G1)) (hv : VS W' v v') (nx : Nx W H G W' H1 G1) (hm : ∀ ty z, i = .alloc ty z → v = .ptr H.length 0) (hm2 : ∀ ty x, i = .box ty x → v = .ptr H.length 0) (hm3 : i = .mkmap → v = .map H.length) :
    T1 W' (ptouch f H i).1 (touch E f' G G1 i).1 ∧ T2 W' H1 G1 (ptouch f H i).2 (touch E f' G G1 i).2 := by
  cases i with
  | load n ag x =>
    have h1 := cx_rel hf_ (x := x) hok
    simp only [ptouch, touch]
    generalize x.ev f' = b at h1
    split
    · rename_i c o hx
      rw [hx] at h1
      obtain ⟨b', rfl, hb⟩ := h1.ptr_inv
      exact ⟨.rd _ _ _ _ (nx.r _ _ hb), .no _⟩
    · rename_i cs o hx
      rw [hx] at h1
      cases h1 with
      | eq _ _ => exact ⟨.zn, .no _⟩
      | zptr _ _ b d cs' hz _ _ _ => exact ⟨.zr _ _ _ _ (nx.z _ _ hz), .no _⟩
    · split
      · exact ⟨.all _, .no _⟩
      · exact ⟨.all _, .no _⟩
  | store n x y =>
    simp only [opOk, Bool.and_eq_true] at hok
    have h1 := cx_rel hf_ (x := x) hok.1
    simp only [ptouch, touch]
    generalize x.ev f' = b at h1
    split
    · rename_i c o hx
      rw [hx] at h1
      obtain ⟨b', rfl, hb⟩ := h1.ptr_inv
      exact ⟨.wr _ _ _ _ (nx.r _ _ hb), .wr _ _ _ _ (nx.r _ _ hb)⟩
    · exact ⟨.all _, .all _⟩
  | alloc ty z =>
    have := hm ty z rfl
    subst this
    simp only [evI, Option.some.injEq, Prod.mk.injEq] at he
    obtain ⟨b', hb, hr⟩ := hv.ptr_inv
    rw [← he.1] at hb
    cases hb
    exact ⟨.mk _ _ hr, .no _⟩
  | box ty x =>
    have := hm2 ty x rfl
    subst this
    simp only [evI] at he
    split at he
    · cases he
    · simp only [Option.some.injEq, Prod.mk.injEq] at he
      obtain ⟨b', hb, hr⟩ := hv.ptr_inv
      rw [← he.1] at hb
      cases hb
      exact ⟨.mk _ _ hr, .no _⟩
  | mkmap =>
    have := hm3 rfl
    subst this
    simp only [evI, Option.some.injEq, Prod.mk.injEq] at he
    obtain ⟨b', hb, hr⟩ := hv.map_inv
    rw [← he.1] at hb
    cases hb
    exact ⟨.mk _ _ hr, .no _⟩
  | len k x =>
    have h1 := cx_rel hf_ (x := x) hok
    simp only [ptouch, touch]
    generalize x.ev f' = b at h1 ⊢
    generalize x.ev f = a at h1 ⊢
    split
    · exact ⟨.all _, by split <;> exact .no _⟩
    · exact ⟨.all _, by split <;> exact .no _⟩
    · rename_i n1 n2
      split
      · exfalso
        cases h1 with
        | und _ => exact n2 rfl
        | eq _ h => cases h
        | map _ _ _ => exact n1 _ rfl
      · exact ⟨.no, .no _⟩
  | bslice ty es z n ps => exact ⟨.all _, .no _⟩
  | b2s x => exact ⟨.all _, .all _⟩
  | lookup _ _ _ _ _ => exact ⟨.all _, .all _⟩
  | mapup _ _ _ _ => exact ⟨.all _, .all _⟩
  | append _ _ _ _ => exact ⟨.all _, .all _⟩
  | clear _ _ _ => exact ⟨.all _, .all _⟩
  | call _ _ => exact ⟨.all _, .all _⟩
  | _ => exact ⟨.no, .no _⟩
theorem pI_new {s : Nat} {f f1 : Fr} {H H1 : Hp} {i : CI} {v : AV} (e : pI s f H i = some (v, f1, H1)) : opOk i = true ∧ (∀ ty z, i = .alloc ty z → v = .ptr H.length 0) ∧ (∀ ty x, i = .box ty x → v = .ptr H.length 0) ∧ (i = .mkmap → v = .map H.length) := by
  have hok : opOk i = true := by
    unfold pI at e
    cases h : opOk i with
    | true => rfl
    | false => rw [h] at e; cases e
  refine ⟨hok, ?_, ?_, ?_⟩
  · rintro ty z rfl
    simp only [pI, hok, cond_true, plainI, evI] at e
    cases e; rfl
  · rintro ty x rfl
    simp only [pI, hok, cond_true, plainI, evI] at e
    cases hu : (x.ev f).isUnd with
    | true => rw [hu] at e; cases e
    | false => rw [hu] at e; cases e; rfl
  · rintro rfl
    simp only [pI, hok, cond_true, plainI, evI] at e
    cases e; rfl
def pafter (s : St) (v : AV) (f1 : Fr) (H1 : Hp) (t : Tch × Tch) : St :=
  match s.k with
  | .ops (o :: r) :: k => ⟨.ops r :: k, .norm, putD o.dst v f1, H1⟩
  | .dops (o :: r) all ts :: k => ⟨.dops r all (t :: ts) :: k, .norm, putD o.dst v f1, H1⟩
  | _ => s
/-- An operation whose answers fit. -/
theorem Pk.opS {E : Env} {n0 : Nat} {Q : Ex → Fr → Hp → Prop} {s : St} {i : CI} {v : AV} {f1 : Fr} {H1 : Hp} {t : Tch × Tch} (h : nextOp s = some i)
    (hs : ∀ W f' G, FS W s.f f' → Sm W s.H G → ∃ W' v' G1, evI f' G i = some (v', G1) ∧ VS W' v v' ∧ FS W' f1 f' ∧ Nx W s.H G W' H1 G1 ∧ T1 W' t.1 (touch E f' G G1 i).1 ∧ T2 W' H1 G1 t.2 (touch E f' G G1 i).2)
    (r : Pk E n0 (pafter s v f1 H1 t) Q) : Pk E n0 s Q := by
  intro hln W s' hss
  obtain ⟨W', v', G1, e1, e2, e3, nx, t1, t2⟩ := hs W s'.f s'.H hss.fs hss.hs
  obtain ⟨k, e, f, H⟩ := s
  obtain ⟨k', e', f', G⟩ := s'
  obtain ⟨hk, he, hfs, hhs⟩ := hss
  simp only at hk he hfs hhs e1 e3 nx t1 t2
  have fin : ∀ {sa : St}, Rk E sa (PQ W' G1 n0 Q) → Rk E sa (PQ W G n0 Q) := fun hh => hh.weak fun _ _ _ => PQ.mono (fun b hb => nx.eqr (Nat.lt_of_lt_of_le hb hln)) nx.z nx.fre nx.gl
  cases hk with
  | same _ hn =>
    cases k with
    | nil => cases h
    | cons x k =>
    cases x with
    | code c => cases h
    | blk j => cases h
    | dops l all ts => cases hn
    | ops l =>
      cases l with
      | nil => cases h
      | cons o l =>
      simp only [nextOp] at h
      split at h
      · rename_i hw
        cases h
        refine Rk.op (v := v') (H1 := G1) (i := o.ins) (by simp only [nextOp, wanted_sim hfs hw]) e1 (fin (r (Nat.le_trans hln nx.hl) W' _ ⟨.same _ (by exact hn), rfl, e3.putD o.dst e2, nx.sm⟩))
      · cases h
  | dops l all ts ts' rk hn tt =>
    cases l with
    | nil => cases h
    | cons o l =>
    simp only [nextOp] at h
    split at h
    · rename_i hw
      cases h
      exact Rk.op (v := v') (H1 := G1) (i := o.ins) (by simp only [nextOp, wanted_sim hfs hw]) e1 (fin (r (Nat.le_trans hln nx.hl) W' _ ⟨.dops _ _ _ _ _ hn (.cons t1 t2 (tt.nx nx)), rfl, e3.putD o.dst e2, nx.sm⟩))
    · cases h
def siteOf : Option Pth → Nat
  | some p => p.n
  | none => 0
def pstep (s : St) : Option St :=
  match s.k with
  | [] => none
  | .code c :: k => match s.e with
    | .norm => match c with
      | .skip => some ⟨k, .norm, s.f, s.H⟩
      | .ret => some ⟨k, .ret, s.f, s.H⟩
      | .exit i => some ⟨k, .exit i, s.f, s.H⟩
      | .seq a b => some ⟨.code a :: .code b :: k, .norm, s.f, s.H⟩
      | .cond x a b => bif cxOk x then (match x.ev s.f with
        | .bool t => some ⟨.code (bif t then a else b) :: k, .norm, s.f, s.H⟩
        | _ => none) else none
      | .blk i c => some ⟨.code c :: .blk i :: k, .norm, s.f, s.H⟩
      | .loop c => some ⟨.code c :: .code (.loop c) :: k, .norm, s.f, s.H⟩
      | .scope c => some ⟨.code c :: k, .norm, s.f, s.H⟩
      | .reg l false => some ⟨.ops l :: k, .norm, s.f, s.H⟩
      | .reg l true => bif noD k then some ⟨.dops l l [] :: k, .norm, s.f, s.H⟩ else none
      | _ => none
    | e => some ⟨k, e, s.f, s.H⟩
  | .blk id :: k => match s.e with
    | .exit i => some ⟨k, bif i == id then .norm else .exit i, s.f, s.H⟩
    | e => some ⟨k, e, s.f, s.H⟩
  | .ops [] :: k => some ⟨k, .norm, s.f, s.H⟩
  | .ops (o :: r) :: k => match wanted o.guard s.f with
    | some true => match pI (siteOf o.dst) s.f s.H o.ins with
      | some (v, f1, H) => some ⟨.ops r :: k, .norm, putD o.dst v f1, H⟩
      | none => none
    | some false => some ⟨.ops r :: k, .norm, putD o.dst (.tup []) s.f, s.H⟩
    | none => none
  | .dops [] all ts :: k => bif flOk all ts.reverse then some ⟨k, .norm, s.f, s.H⟩ else none
  | .dops (o :: r) all ts :: k => match wanted o.guard s.f with
    | some true => match pI (siteOf o.dst) s.f s.H o.ins with
      | some (v, f1, H) => some ⟨.dops r all (ptouch s.f s.H o.ins :: ts) :: k, .norm, putD o.dst v f1, H⟩
      | none => none
    | some false => some ⟨.dops r all ((.no, .no) :: ts) :: k, .norm, putD o.dst (.tup []) s.f, s.H⟩
    | none => none
theorem Pk.op {E : Env} {n0 : Nat} {Q : Ex → Fr → Hp → Prop} {s : St} {i : CI} (n : Nat) {v : AV} {f1 : Fr} {H1 : Hp} (h : nextOp s = some i) (he : pI n s.f s.H i = some (v, f1, H1)) (r : Pk E n0 (pafter s v f1 H1 (ptouch s.f s.H i)) Q) : Pk E n0 s Q := by
  refine Pk.opS h (fun W f' G hf_ hs => ?_) r
  obtain ⟨W', v', G1, e1, e2, e3, nx⟩ := pI_sim hf_ hs he
  obtain ⟨q1, q2, q3, q4⟩ := pI_new he
  obtain ⟨t1, t2⟩ := touch_sim (E := E) hf_ q1 e1 e2 nx q2 q3 q4
  exact ⟨W', v', G1, e1, e2, e3, nx, t1, t2⟩
theorem KS.tail {W : Wd} {H G : Hp} {x : Kt} {k k' : List Kt} (hx : ∀ l a t, x ≠ .dops l a t) (h : KS W H G (x :: k) k') : k' = x :: k ∧ noD k = true := by
  cases h with
  | same _ h =>
    refine ⟨rfl, ?_⟩
    cases x with
    | dops l a t => exact absurd rfl (hx l a t)
    | _ => exact h
  | dops l all ts ts' r h t => exact absurd rfl (hx _ _ _)
theorem noD_cons {x : Kt} {k : List Kt} (hx : ∀ l a t, x ≠ .dops l a t) (h : noD k = true) : noD (x :: k) = true := by
  cases x with
  | dops l a t => exact absurd rfl (hx l a t)
  | _ => exact h
theorem Pk.step {E : Env} {n0 : Nat} {Q : Ex → Fr → Hp → Prop} {s s1 : St} (h : pstep s = some s1) (r : Pk E n0 s1 Q) : Pk E n0 s Q := by
  obtain ⟨k, e, f, H⟩ := s
  unfold pstep at h
  simp only at h
  split at h
  · cases h
  · rename_i c k
    split at h
    · split at h
      · cases h
        intro hl W s' hs
        obtain ⟨k', e', f', G⟩ := s'
        obtain ⟨hk, he, hfs, hhs⟩ := hs
        simp only at hk he hfs hhs
        subst he
        obtain ⟨rfl, hn⟩ := hk.tail (by intros; simp)
        exact Rk.step (s' := ⟨k, .norm, f', G⟩) rfl (r hl W _ ⟨.same _ hn, rfl, hfs, hhs⟩)
      · cases h
        intro hl W s' hs
        obtain ⟨k', e', f', G⟩ := s'
        obtain ⟨hk, he, hfs, hhs⟩ := hs
        simp only at hk he hfs hhs
        subst he
        obtain ⟨rfl, hn⟩ := hk.tail (by intros; simp)
        exact Rk.step (s' := ⟨k, .ret, f', G⟩) rfl (r hl W _ ⟨.same _ hn, rfl, hfs, hhs⟩)
      · rename_i i
        cases h
        intro hl W s' hs
        obtain ⟨k', e', f', G⟩ := s'
        obtain ⟨hk, he, hfs, hhs⟩ := hs
        simp only at hk he hfs hhs
        subst he
        obtain ⟨rfl, hn⟩ := hk.tail (by intros; simp)
        exact Rk.step (s' := ⟨k, .exit i, f', G⟩) rfl (r hl W _ ⟨.same _ hn, rfl, hfs, hhs⟩)
      · rename_i a b
        cases h
        intro hl W s' hs
        obtain ⟨k', e', f', G⟩ := s'
        obtain ⟨hk, he, hfs, hhs⟩ := hs
        simp only at hk he hfs hhs
        subst he
        obtain ⟨rfl, hn⟩ := hk.tail (by intros; simp)
        exact Rk.step (s' := ⟨.code a :: .code b :: k, .norm, f', G⟩) rfl (r hl W _ ⟨.same _ hn, rfl, hfs, hhs⟩)
      · rename_i x a b
        cases hc : cxOk x with
        | false => rw [hc] at h; cases h
        | true =>
        rw [hc] at h
        simp only [cond_true] at h
        split at h
        · rename_i t ht
          cases h
          intro hl W s' hs
          obtain ⟨k', e', f', G⟩ := s'
          obtain ⟨hk, he, hfs, hhs⟩ := hs
          simp only at hk he hfs hhs
          subst he
          obtain ⟨rfl, hn⟩ := hk.tail (by intros; simp)
          have h1 := cx_rel hfs hc
          rw [ht] at h1
          exact Rk.step (s' := ⟨.code (bif t then a else b) :: k, .norm, f', G⟩) (by simp only [step1, h1.bool_inv]) (r hl W _ ⟨.same _ hn, rfl, hfs, hhs⟩)
        · cases h
      · rename_i i c
        cases h
        intro hl W s' hs
        obtain ⟨k', e', f', G⟩ := s'
        obtain ⟨hk, he, hfs, hhs⟩ := hs
        simp only at hk he hfs hhs
        subst he
        obtain ⟨rfl, hn⟩ := hk.tail (by intros; simp)
        exact Rk.step (s' := ⟨.code c :: .blk i :: k, .norm, f', G⟩) rfl (r hl W _ ⟨.same _ hn, rfl, hfs, hhs⟩)
      · rename_i c
        cases h
        intro hl W s' hs
        obtain ⟨k', e', f', G⟩ := s'
        obtain ⟨hk, he, hfs, hhs⟩ := hs
        simp only at hk he hfs hhs
        subst he
        obtain ⟨rfl, hn⟩ := hk.tail (by intros; simp)
        exact Rk.step (s' := ⟨.code c :: .code (.loop c) :: k, .norm, f', G⟩) rfl (r hl W _ ⟨.same _ hn, rfl, hfs, hhs⟩)
      · rename_i c
        cases h
        intro hl W s' hs
        obtain ⟨k', e', f', G⟩ := s'
        obtain ⟨hk, he, hfs, hhs⟩ := hs
        simp only at hk he hfs hhs
        subst he
        obtain ⟨rfl, hn⟩ := hk.tail (by intros; simp)
        exact Rk.step (s' := ⟨.code c :: k, .norm, f', G⟩) rfl (r hl W _ ⟨.same _ hn, rfl, hfs, hhs⟩)
      · rename_i l
        cases h
        intro hl W s' hs
        obtain ⟨k', e', f', G⟩ := s'
        obtain ⟨hk, he, hfs, hhs⟩ := hs
        simp only at hk he hfs hhs
        subst he
        obtain ⟨rfl, hn⟩ := hk.tail (by intros; simp)
        exact Rk.step (s' := ⟨.ops l :: k, .norm, f', G⟩) rfl (r hl W _ ⟨.same _ hn, rfl, hfs, hhs⟩)
      · rename_i l
        cases hc : noD k with
        | false => rw [hc] at h; cases h
        | true =>
        rw [hc] at h
        cases h
        intro hl W s' hs
        obtain ⟨k', e', f', G⟩ := s'
        obtain ⟨hk, he, hfs, hhs⟩ := hs
        simp only at hk he hfs hhs
        subst he
        obtain ⟨rfl, hn⟩ := hk.tail (by intros; simp)
        exact Rk.step (s' := ⟨.dops l l [] :: k, .norm, f', G⟩) rfl (r hl W _ ⟨.dops _ _ _ _ _ hn .nil, rfl, hfs, hhs⟩)
      · cases h
    · rename_i e0 hne
      cases h
      intro hl W s' hs
      obtain ⟨k', e', f', G⟩ := s'
      obtain ⟨hk, he, hfs, hhs⟩ := hs
      simp only at hk he hfs hhs
      subst he
      obtain ⟨rfl, hn⟩ := hk.tail (by intros; simp)
      refine Rk.step (s' := ⟨k, e', f', G⟩) ?_ (r hl W _ ⟨.same _ hn, rfl, hfs, hhs⟩)
      cases e' with
      | norm => exact absurd rfl hne
      | _ => rfl
  · rename_i id k
    split at h
    · rename_i i
      cases h
      intro hl W s' hs
      obtain ⟨k', e', f', G⟩ := s'
      obtain ⟨hk, he, hfs, hhs⟩ := hs
      simp only at hk he hfs hhs
      subst he
      obtain ⟨rfl, hn⟩ := hk.tail (by intros; simp)
      exact Rk.step (s' := ⟨k, bif i == id then .norm else .exit i, f', G⟩) rfl (r hl W _ ⟨.same _ hn, rfl, hfs, hhs⟩)
    · rename_i e0 hne
      cases h
      intro hl W s' hs
      obtain ⟨k', e', f', G⟩ := s'
      obtain ⟨hk, he, hfs, hhs⟩ := hs
      simp only at hk he hfs hhs
      subst he
      obtain ⟨rfl, hn⟩ := hk.tail (by intros; simp)
      refine Rk.step (s' := ⟨k, e', f', G⟩) ?_ (r hl W _ ⟨.same _ hn, rfl, hfs, hhs⟩)
      cases e' with
      | exit i => exact absurd rfl (hne i)
      | _ => rfl
  · rename_i k
    cases h
    intro hl W s' hs
    obtain ⟨k', e', f', G⟩ := s'
    obtain ⟨hk, he, hfs, hhs⟩ := hs
    simp only at hk he hfs hhs
    subst he
    obtain ⟨rfl, hn⟩ := hk.tail (by intros; simp)
    exact Rk.step (s' := ⟨k, .norm, f', G⟩) rfl (r hl W _ ⟨.same _ hn, rfl, hfs, hhs⟩)
  · rename_i o l k
    split at h
    · rename_i hw
      split at h
      · rename_i v f1 H1 hp
        cases h
        exact Pk.op (siteOf o.dst) (i := o.ins) (by simp only [nextOp, hw]) hp r
      · cases h
    · rename_i hw
      cases h
      intro hl W s' hs
      obtain ⟨k', e', f', G⟩ := s'
      obtain ⟨hk, he, hfs, hhs⟩ := hs
      simp only at hk he hfs hhs
      subst he
      obtain ⟨rfl, hn⟩ := hk.tail (by intros; simp)
      exact Rk.step (s' := ⟨.ops l :: k, .norm, putD o.dst (.tup []) f', G⟩) (by simp only [step1, wanted_sim hfs hw]) (r hl W _ ⟨.same _ hn, rfl, hfs.putD _ (.eq _ rfl), hhs⟩)
    · cases h
  · rename_i all ts k
    cases hc : flOk all ts.reverse with
    | false => rw [hc] at h; cases h
    | true =>
    rw [hc] at h
    cases h
    intro hl W s' hs
    obtain ⟨k', e', f', G⟩ := s'
    obtain ⟨hk, he, hfs, hhs⟩ := hs
    simp only at hk he hfs hhs
    subst he
    cases hk with
    | same _ h => cases h
    | dops _ _ _ ts' _ hn t =>
      exact Rk.step (s' := ⟨k, .norm, f', G⟩) (by simp only [step1, flOk_sim hhs t.rev hc, cond_true]) (r hl W _ ⟨.same _ hn, rfl, hfs, hhs⟩)
  · rename_i o l all ts k
    split at h
    · rename_i hw
      split at h
      · rename_i v f1 H1 hp
        cases h
        exact Pk.op (siteOf o.dst) (i := o.ins) (by simp only [nextOp, hw]) hp r
      · cases h
    · rename_i hw
      cases h
      intro hl W s' hs
      obtain ⟨k', e', f', G⟩ := s'
      obtain ⟨hk, he, hfs, hhs⟩ := hs
      simp only at hk he hfs hhs
      subst he
      cases hk with
      | same _ h => cases h
      | dops _ _ _ ts' _ hn t =>
        exact Rk.step (s' := ⟨.dops l all ((.no, .no) :: ts') :: k, .norm, putD o.dst (.tup []) f', G⟩) (by simp only [step1, wanted_sim hfs hw]) (r hl W _ ⟨.dops _ _ _ _ _ hn (.cons .no (.no _) t), rfl, hfs.putD _ (.eq _ rfl), hhs⟩)
    · cases h
def piter : Nat → St → Option St
  | 0, s => some s
  | n + 1, s => match pstep s with
    | some s' => piter n s'
    | none => none
def padv (n : Nat) (s : St) : St := (piter n s).getD s
theorem Pk.iter {E : Env} {n0 : Nat} {Q : Ex → Fr → Hp → Prop} : ∀ (n : Nat) {s s' : St}, piter n s = some s' → Pk E n0 s' Q → Pk E n0 s Q
  | 0, s, s', h, r => by cases h; exact r
  | n + 1, s, s', h, r => by
    unfold piter at h
    split at h
    · rename_i s1 h1
      exact Pk.step h1 (Pk.iter n h r)
    · cases h
theorem Pk.adv {E : Env} {n0 : Nat} {Q : Ex → Fr → Hp → Prop} (n : Nat) {s : St} (h : (piter n s).isSome = true) (r : Pk E n0 (padv n s) Q) : Pk E n0 s Q := by
  obtain ⟨s', hs⟩ := Option.isSome_iff_exists.1 h
  refine Pk.iter n hs ?_
  have : padv n s = s' := by unfold padv; rw [hs]; rfl
  rw [← this]; exact r
end Go.EV

/- The pure machine: appending; calls; what is told of a state. -/
namespace Go.EV

/-! ## Appending -/
def baseOf : AV → Option (Option (Nat × Nat) × List (List AV))
  | .nils => some (none, [])
  | .emp => some (none, [])
  | .own t ty l => some (some (t, ty), l)
  | _ => none
def newOf (es : Nat) : AV → Option (List (List AV))
  | .lst l => some l
  | .own _ _ l => some l
  | .nils => some []
  | .emp => some []
  | .str s => bif Nat.beq es 1 then some (bytesAV s) else none
  | _ => none
def tkTy (ty : Nat) : Option (Nat × Nat) → Bool
  | none => true
  | some (_, ty') => Nat.beq ty' ty
def apF : Option (Nat × Nat) → Nat → Fr → Fr
  | none, s, f => mtF (rtS (Nat.beq s)) f
  | some (t, _), s, f => bif Nat.beq t s then mtF (klS t) f else mtF (rtS (Nat.beq s)) (mtF (klS t) f)
def apH : Option (Nat × Nat) → Nat → Hp → Hp
  | none, s, f => mtH (rtS (Nat.beq s)) f
  | some (t, _), s, f => bif Nat.beq t s then mtH (klS t) f else mtH (rtS (Nat.beq s)) (mtH (klS t) f)
theorem flat_get {α : Type} {es : Nat} : ∀ {L : List (List α)} {i j : Nat}, (∀ c, c ∈ L → c.length = es) → j < es → L.flatten[i * es + j]? = (L[i]?).bind fun c => c[j]?
  | [], i, j, _, _ => by simp
  | c :: r, 0, j, h, hj => by
    have := h c (List.mem_cons_self ..)
    simp only [List.flatten_cons, Nat.zero_mul, Nat.zero_add, List.getElem?_cons_zero, Option.bind_some]
    rw [List.getElem?_append_left (by omega)]
  | c :: r, i + 1, j, h, hj => by
    have := h c (List.mem_cons_self ..)
    simp only [List.flatten_cons, List.getElem?_cons_succ]
    rw [List.getElem?_append_right (by rw [Nat.add_mul]; omega), ← flat_get (fun c hc => h c (List.mem_cons_of_mem _ hc)) hj]
    congr 1; rw [Nat.add_mul]; omega
theorem flat_len {α : Type} {es : Nat} : ∀ {L : List (List α)}, (∀ c, c ∈ L → c.length = es) → L.flatten.length = L.length * es
  | [], _ => by simp
  | c :: r, h => by
    simp only [List.flatten_cons, List.length_append, List.length_cons]
    rw [h c (List.mem_cons_self ..), flat_len fun c hc => h c (List.mem_cons_of_mem _ hc), Nat.add_mul]; omega
/-- The elements that are appended, on both sides. -/
theorem elemsN {W : Wd} {H G : Hp} (hs : Sm W H G) {x x' : AV} (h : VS W x x') {es : Nat} {new : List (List AV)} (e : newOf es x = some new) (hN : ∀ c, c ∈ new → c.length = es ∧ gfL c = true ∧ c.all AV.one = true) :
    ∃ new', elemsOf es G x' = some new' ∧ new'.length = new.length ∧ ∀ (i : Nat) (c c' : List AV), new[i]? = some c → new'[i]? = some c' → VSL W c c' := by
  have plain : elemsOf es H x = some new → ∃ new', elemsOf es G x' = some new' ∧ new'.length = new.length ∧ ∀ (i : Nat) (c c' : List AV), new[i]? = some c → new'[i]? = some c' → VSL W c c' := fun e => by
    obtain ⟨l', q1, q2, q3⟩ := elems_sim hs h e
    refine ⟨l', q1, q2, fun i c c' e1 e2 => ?_⟩
    rcases q3 i c c' e1 e2 with rfl | ⟨_, k⟩
    · exact .eq (gfL_hf (hN _ (List.mem_of_getElem? e1)).2.1)
    · exact k
  cases x with
  | lst l =>
    cases e
    refine plain ?_
    simp only [elemsOf]
    rw [if_pos]
    cases new with
    | nil => rfl
    | cons c r => simp only [headOk]; rw [(hN c (List.mem_cons_self ..)).1]; simp
  | nils => cases e; exact plain rfl
  | emp => cases e; exact plain rfl
  | str s =>
    simp only [newOf] at e
    cases h1 : Nat.beq es 1 with
    | false => rw [h1] at e; cases e
    | true =>
      rw [h1] at e
      cases e
      exact plain (by simp only [elemsOf, Nat.eq_of_beq_eq_true h1, if_true])
  | own t ty l =>
    cases e
    cases h with
    | eq _ h => cases h
    | ownn _ _ => exact ⟨[], rfl, rfl, fun i c c' e => by simp at e⟩
    | owne _ _ => exact ⟨[], rfl, rfl, fun i c c' e => by simp at e⟩
    | own _ t ht hne =>
      have tk := hs.tk _ t ht
      obtain ⟨cs, h1, h2, h3⟩ := tk.at_
      have hes : t.es = es := by
        cases hl : t.l with
        | nil => exact absurd hl hne
        | cons c r =>
          have hc : c ∈ t.l := by rw [hl]; exact List.mem_cons_self ..
          rw [← tk.len c hc, (hN c hc).1]
      subst hes
      refine ⟨chunks t.es cs 0 t.l.length, by simp only [elemsOf, true_or, if_true, h1, Nat.zero_add, h2, Nat.le_refl], chunks_len _ _, fun i c c' e1 e2 => ?_⟩
      have hi := (List.getElem?_eq_some_iff.1 e1).1
      rw [chunks_nth _ _ _ hi] at e2
      cases e2
      have hmul : i * t.es + t.es ≤ t.l.length * t.es := by rw [← Nat.succ_mul]; exact Nat.mul_le_mul_right _ hi
      refine ⟨by rw [(hN c (List.mem_of_getElem? e1)).1]; simp; omega, fun j v v' e3 e4 => ?_⟩
      rw [List.getElem?_take] at e4
      split at e4
      · rw [List.getElem?_drop] at e4
        exact h3 i c j v v' e1 e3 (by rw [← e4]; congr 1; omega)
      · cases e4
  | _ => cases e
theorem one_flat {W : Wd} {new new' : List (List AV)} (hl : new'.length = new.length) (h : ∀ (i : Nat) (c c' : List AV), new[i]? = some c → new'[i]? = some c' → VSL W c c') (h1 : ∀ c, c ∈ new → c.all AV.one = true) : new'.flatten.all AV.one = true := by
  rw [List.all_eq_true]
  intro x hx
  obtain ⟨c', hc', hxc⟩ := List.mem_flatten.1 hx
  obtain ⟨i, hi⟩ := List.getElem?_of_mem hc'
  have hlt : i < new.length := by rw [← hl]; exact (List.getElem?_eq_some_iff.1 hi).1
  have := (h i _ c' (List.getElem?_eq_getElem hlt) hi).ones (h1 _ (List.getElem_mem hlt))
  rw [List.all_eq_true] at this
  exact this x hxc
/-- A block that holds what is told and what is appended. -/
theorem tk_app {W : Wd} {G : Hp} {es ty b : Nat} {l new new' : List (List AV)} {cs : List AV} (hne : l ++ new ≠ []) (hl : ∀ c, c ∈ l → c.length = es ∧ gfL c = true) (hN : ∀ c, c ∈ new → c.length = es ∧ gfL c = true) (hcs : cs.length = l.length * es)
    (h1 : ∀ i c j v v', l[i]? = some c → c[j]? = some v → cs[i * es + j]? = some v' → VS W v v') (hn : new'.length = new.length) (h2 : ∀ (i : Nat) (c c' : List AV), new[i]? = some c → new'[i]? = some c' → VSL W c c')
    (hb : G[b]? = some (.cells 1 ty (cs ++ new'.flatten))) : TkOk W G ⟨es, ty, b, l ++ new⟩ := by
  have hlen' : ∀ c, c ∈ new' → c.length = es := fun c' hc' => by
    obtain ⟨i, hi⟩ := List.getElem?_of_mem hc'
    have hlt : i < new.length := by rw [← hn]; exact (List.getElem?_eq_some_iff.1 hi).1
    rw [← (h2 i _ c' (List.getElem?_eq_getElem hlt) hi).1]
    exact (hN _ (List.getElem_mem hlt)).1
  refine ⟨hne, fun c hc => ?_, fun c hc => ?_, _, hb, ?_, fun i c j v v' e1 e2 e3 => ?_⟩
  · rcases List.mem_append.1 hc with hc | hc
    · exact (hl c hc).2
    · exact (hN c hc).2
  · rcases List.mem_append.1 hc with hc | hc
    · exact (hl c hc).1
    · exact (hN c hc).1
  · rw [List.length_append, hcs, flat_len hlen', hn, List.length_append, Nat.add_mul]
  · have e1 : (l ++ new)[i]? = some c := e1
    have e3 : (cs ++ new'.flatten)[i * es + j]? = some v' := e3
    by_cases hi : i < l.length
    · rw [List.getElem?_append_left hi] at e1
      have hj : j < es := by rw [← (hl c (List.mem_of_getElem? e1)).1]; exact (List.getElem?_eq_some_iff.1 e2).1
      have hmul : i * es + es ≤ l.length * es := by rw [← Nat.succ_mul]; exact Nat.mul_le_mul_right _ hi
      rw [List.getElem?_append_left (by omega)] at e3
      exact h1 i c j v v' e1 e2 e3
    · rw [List.getElem?_append_right (by omega)] at e1
      have hj : j < es := by rw [← (hN c (List.mem_of_getElem? e1)).1]; exact (List.getElem?_eq_some_iff.1 e2).1
      have hmul : l.length * es + (i - l.length) * es = i * es := by rw [← Nat.add_mul]; congr 1; omega
      rw [List.getElem?_append_right (by omega)] at e3
      have : i * es + j - cs.length = (i - l.length) * es + j := by omega
      rw [this, flat_get hlen' hj] at e3
      cases e4 : new'[i - l.length]? with
      | none => rw [e4] at e3; cases e3
      | some c' =>
        rw [e4] at e3
        exact (h2 _ c c' e1 e4).2 j v v' e2 e3
theorem newt_own {W : Wd} {s es ty b : Nat} {l : List (List AV)} (hn : l ≠ []) : VS (W.newt s ⟨es, ty, b, l⟩) (.own s ty l) (.sl es b 0 l.length) :=
  VS.own (W := W.newt s ⟨es, ty, b, l⟩) s ⟨es, ty, b, l⟩ (by
    show (if s = s then some _ else _) = some _
    rw [if_pos rfl]) hn
theorem app_sim {E : Env} {W : Wd} {f f' : Fr} {H G : Hp} (hf_ : FS W f f') (hs : Sm W H G) {ty es : Nat} {a x : CX} (hok : (cxOk a && cxOk x) = true) (s : Nat) {tk : Option (Nat × Nat)} {l new : List (List AV)} (hb : baseOf (a.ev f) = some (tk, l)) (hx : newOf es (x.ev f) = some new) (hty : tkTy ty tk = true) (hh : headOk es l = true)
    (hN : ∀ c, c ∈ new → c.length = es ∧ gfL c = true ∧ c.all AV.one = true) (hmx : l.length + new.length ≤ mxLen) :
    ∃ W' v' G1, evI f' G (.append ty es a x) = some (v', G1) ∧ VS W' (.own s ty (l ++ new)) v' ∧ FS W' (apF tk s f) f' ∧ Nx W H G W' (apH tk s H) G1 ∧ T1 W' .all (touch E f' G G1 (.append ty es a x)).1 ∧ T2 W' (apH tk s H) G1 (.del 1000000) (touch E f' G G1 (.append ty es a x)).2 := by
  simp only [Bool.and_eq_true] at hok
  have ha := cx_rel hf_ hok.1
  obtain ⟨new', n1, n2, n3⟩ := elemsN hs (cx_rel hf_ hok.2) hx hN
  have hone := one_flat n2 n3 fun c hc => (hN c hc).2.2
  -- a base of nothing
  have nothing : ∀ {av : AV}, (av = .nils ∨ av = .emp) → a.ev f' = av → tk = none → l = [] →
      ∃ W' v' G1, evI f' G (.append ty es a x) = some (v', G1) ∧ VS W' (.own s ty (l ++ new)) v' ∧ FS W' (apF tk s f) f' ∧ Nx W H G W' (apH tk s H) G1 ∧ T1 W' .all (touch E f' G G1 (.append ty es a x)).1 ∧ T2 W' (apH tk s H) G1 (.del 1000000) (touch E f' G G1 (.append ty es a x)).2 := by
    rintro av hav hav' rfl rfl
    have nx := hs.ret_nx (Nat.beq s)
    have fs := hf_.go (ret_goes hs (Nat.beq s))
    have tch : ∀ G1, (touch E f' G G1 (.append ty es a x)).2 = .no := fun G1 => by
      simp only [touch, hav']
      rcases hav with rfl | rfl <;> rfl
    cases hnew : new with
    | nil =>
      have hn' : new' = [] := List.length_eq_zero_iff.1 (by rw [n2, hnew]; rfl)
      refine ⟨W.ret (Nat.beq s) G, av, G, ?_, ?_, fs, nx, .all _, by rw [tch]; exact .no _⟩
      · simp only [evI, evAppend, n1, hn', hav']
        rcases hav with rfl | rfl <;> simp
      · rcases hav with rfl | rfl
        · exact .ownn s ty
        · exact .owne s ty
    | cons c0 r0 =>
      have hne : new ≠ [] := by rw [hnew]; simp
      have hne' : new'.isEmpty = false := by
        cases hq : new' with
        | nil => rw [hq] at n2; exact absurd (List.length_eq_zero_iff.1 n2.symm) hne
        | cons _ _ => rfl
      have hmx' : new'.length ≤ mxLen := by rw [n2]; simpa using hmx
      have z1 : ∀ b c, W.z b = some c → (W.ret (Nat.beq s) G).z b = some c := nx.z
      have tko : TkOk (W.ret (Nat.beq s) G) (G ++ [.cells 1 ty new'.flatten]) ⟨es, ty, G.length, [] ++ new⟩ :=
        tk_app (cs := []) (by simpa using hne) (fun c hc => by cases hc) (fun c hc => ⟨(hN c hc).1, (hN c hc).2.1⟩) (by simp) (fun i c j v v' e => by simp at e) n2 (fun i c c' e1 e2 => ⟨(n3 i c c' e1 e2).1, fun j v v' e3 e4 => ((n3 i c c' e1 e2).2 j v v' e3 e4).gfz z1 (gfL_at (hN c (List.mem_of_getElem? e1)).2.1 e3)⟩) (by simp)
      have hn : (W.ret (Nat.beq s) G).t s = none := by
        show (bif Nat.beq s s then Option.none else W.t s) = none
        rw [Nat.beq_refl]; rfl
      have hg := nx.sm.grow [] [.cells 1 ty new'.flatten]
      rw [List.append_nil] at hg
      refine ⟨_, .sl es G.length 0 new.length, G ++ [.cells 1 ty new'.flatten], ?_, ?_, fs.up (Wd.newt_up (t := ⟨es, ty, G.length, [] ++ new⟩) hn), ⟨nx.r, nx.z, nx.nw, hg.newt hn (nx.sm.end_free (Nat.le_refl _)) tko, nx.hl, by simp, fun c hc hf => ⟨Wd.newt_free (nx.fre c hc hf).1 (by show G.length ≠ c; omega), List.getElem?_append_left hc⟩⟩, .all _, by rw [tch]; exact .no _⟩
      · simp only [evI, evAppend, n1, hav']
        rcases hav with rfl | rfl <;> (simp only [hne', Bool.false_eq_true, if_false]; rw [if_pos ⟨hmx', hone⟩, n2])
      · have := newt_own (W := W.ret (Nat.beq s) G) (s := s) (es := es) (ty := ty) (b := G.length) (l := [] ++ new) (by simpa using hne)
        rw [← hnew]
        simpa using this
  cases hav : a.ev f with
  | nils =>
    rw [hav] at hb ha
    cases hb
    exact nothing (.inl rfl) (rg_eq rfl ha) rfl rfl
  | emp =>
    rw [hav] at hb ha
    cases hb
    have : a.ev f' = .emp := by
      generalize a.ev f' = y at ha
      cases ha; rfl
    exact nothing (.inr rfl) this rfl rfl
  | own t ty0 l0 =>
    rw [hav] at hb ha
    cases hb
    have hty := Nat.eq_of_beq_eq_true hty
    subst hty
    -- the world behind: killed, and the place's elder slice frozen
    have step : ∃ W1, FS W1 (apF (some (t, ty0)) s f) f' ∧ Sm W1 (apH (some (t, ty0)) s H) G ∧ (∀ b, W1.r b = W.r b) ∧ (∀ b c, W.z b = some c → W1.z b = some c) ∧ W1.t s = none ∧ (∀ tt, W.t t = some tt → W1.free tt.b) ∧ (∀ c, W.free c → W1.free c) := by
      have k1 := hs.kill t
      have f1 := hf_.go (kill_goes W t)
      cases e : Nat.beq t s with
      | true =>
        have e1 := Nat.eq_of_beq_eq_true e
        subst e1
        refine ⟨W.kill t, by simpa only [apF, e, cond_true] using f1, by simpa only [apH, e, cond_true] using k1, fun _ => rfl, fun _ _ e => e, by show (if t = t then none else W.t t) = none; rw [if_pos rfl], fun tt ht => Wd.kill_free hs ht, fun c hf => Wd.kill_free0 hf⟩
      | false =>
        have nx := k1.ret_nx (Nat.beq s)
        refine ⟨(W.kill t).ret (Nat.beq s) G, by simpa only [apF, e, cond_false] using f1.go (ret_goes k1 (Nat.beq s)), by simpa only [apH, e, cond_false] using nx.sm, fun _ => rfl, nx.z, ?_, fun tt ht => ?_, fun c hf => Wd.ret_free (Wd.kill_free0 hf)⟩
        · show (bif Nat.beq s s then Option.none else (W.kill t).t s) = none
          rw [Nat.beq_refl]; rfl
        · obtain ⟨a1, a2, a3⟩ := Wd.kill_free hs ht
          refine ⟨a1, fun s' t' h' => ?_, ?_⟩
          · have h' : (bif Nat.beq s s' then Option.none else (W.kill t).t s') = some t' := h'
            cases q : Nat.beq s s' with
            | true => rw [q] at h'; cases h'
            | false => rw [q] at h'; exact a2 s' t' h'
          · cases q : ((W.kill t).ret (Nat.beq s) G).z tt.b with
            | none => rfl
            | some c =>
              exfalso
              unfold Wd.ret at q
              simp only at q
              split at q
              · rename_i hex
                obtain ⟨s1, t1, _, h2, h3⟩ := hex
                exact a2 s1 t1 h2 h3
              · rw [a3] at q; cases q
    obtain ⟨W1, fs1, sm1, r1, z1, tn, fr, fr1⟩ := step
    have hNg : ∀ c, c ∈ new → c.length = es ∧ gfL c = true := fun c hc => ⟨(hN c hc).1, (hN c hc).2.1⟩
    have n3' : ∀ (i : Nat) (c c' : List AV), new[i]? = some c → new'[i]? = some c' → VSL W1 c c' := fun i c c' e1 e2 => ⟨(n3 i c c' e1 e2).1, fun j v v' e3 e4 => ((n3 i c c' e1 e2).2 j v v' e3 e4).gfz z1 (gfL_at (hN c (List.mem_of_getElem? e1)).2.1 e3)⟩
    have nx1 : Nx W H G W1 (apH (some (t, ty0)) s H) G := by
      refine ⟨fun b b' e => by rw [r1]; exact e, z1, fun b b' e => .inl (by rw [← r1]; exact e), sm1, ?_, Nat.le_refl _, fun c _ hf => ⟨fr1 c hf, rfl⟩⟩
      show H.length ≤ (bif Nat.beq t s then mtH (klS t) H else mtH (rtS (Nat.beq s)) (mtH (klS t) H)).length
      cases Nat.beq t s <;> simp [mtH_map]
    -- nothing there as yet
    have none0 : ∀ {av : AV}, (av = .nils ∨ av = .emp) → a.ev f' = av → l = [] →
        ∃ W' v' G1, evI f' G (.append ty0 es a x) = some (v', G1) ∧ VS W' (.own s ty0 (l ++ new)) v' ∧ FS W' (apF (some (t, ty0)) s f) f' ∧ Nx W H G W' (apH (some (t, ty0)) s H) G1 ∧ T1 W' .all (touch E f' G G1 (.append ty0 es a x)).1 ∧ T2 W' (apH (some (t, ty0)) s H) G1 (.del 1000000) (touch E f' G G1 (.append ty0 es a x)).2 := by
      rintro av hav2 hav' rfl
      have tch : ∀ G1, (touch E f' G G1 (.append ty0 es a x)).2 = .no := fun G1 => by
        simp only [touch, hav']
        rcases hav2 with rfl | rfl <;> rfl
      cases hnew : new with
      | nil =>
        have hn' : new' = [] := List.length_eq_zero_iff.1 (by rw [n2, hnew]; rfl)
        refine ⟨W1, av, G, ?_, ?_, fs1, nx1, .all _, by rw [tch]; exact .no _⟩
        · simp only [evI, evAppend, n1, hn', hav']
          rcases hav2 with rfl | rfl <;> simp
        · rcases hav2 with rfl | rfl
          · exact .ownn s ty0
          · exact .owne s ty0
      | cons c0 r0 =>
        have hne : new ≠ [] := by rw [hnew]; simp
        have hne' : new'.isEmpty = false := by
          cases hq : new' with
          | nil => rw [hq] at n2; exact absurd (List.length_eq_zero_iff.1 n2.symm) hne
          | cons _ _ => rfl
        have hmx' : new'.length ≤ mxLen := by rw [n2]; simpa using hmx
        have tko : TkOk W1 (G ++ [.cells 1 ty0 new'.flatten]) ⟨es, ty0, G.length, [] ++ new⟩ :=
          tk_app (cs := []) (by simpa using hne) (fun c hc => by cases hc) hNg (by simp) (fun i c j v v' e => by simp at e) n2 n3' (by simp)
        have hg := sm1.grow [] [.cells 1 ty0 new'.flatten]
        rw [List.append_nil] at hg
        refine ⟨_, .sl es G.length 0 new.length, G ++ [.cells 1 ty0 new'.flatten], ?_, ?_, fs1.up (Wd.newt_up (t := ⟨es, ty0, G.length, [] ++ new⟩) tn), ⟨nx1.r, nx1.z, nx1.nw, hg.newt tn (sm1.end_free (Nat.le_refl _)) tko, nx1.hl, by simp, fun c hc hf => ⟨Wd.newt_free (fr1 c hf) (by show G.length ≠ c; omega), List.getElem?_append_left hc⟩⟩, .all _, by rw [tch]; exact .no _⟩
        · simp only [evI, evAppend, n1, hav']
          rcases hav2 with rfl | rfl <;> (simp only [hne', Bool.false_eq_true, if_false]; rw [if_pos ⟨hmx', hone⟩, n2])
        · have := newt_own (W := W1) (s := s) (es := es) (ty := ty0) (b := G.length) (l := [] ++ new) (by simpa using hne)
          rw [← hnew]
          simpa using this
    generalize hy : a.ev f' = y at ha
    cases ha with
    | eq _ h => cases h
    | ownn _ _ => exact none0 (.inl rfl) hy rfl
    | owne _ _ => exact none0 (.inr rfl) hy rfl
    | own _ tt ht hne =>
      have tk := hs.tk _ tt ht
      obtain ⟨cs, h1, h2, h3⟩ := tk.at_
      have hes : tt.es = es := by
        cases hl : tt.l with
        | nil => exact absurd hl hne
        | cons c r =>
          have hc : c ∈ tt.l := by rw [hl]; exact List.mem_cons_self ..
          rw [hl] at hh
          rw [← tk.len c hc]; exact headOk_cons hh
      subst hes
      have free := fr tt ht
      have hlt := hs.tlt ht
      have hl2 : ∀ c, c ∈ tt.l → c.length = tt.es ∧ gfL c = true := fun c hc => ⟨tk.len c hc, tk.gf c hc⟩
      have h3' : ∀ (i : Nat) (c : List AV) (j : Nat) (v v' : AV), tt.l[i]? = some c → c[j]? = some v → cs[i * tt.es + j]? = some v' → VS W1 v v' := fun i c j v v' e1 e2 e3 => (h3 i c j v v' e1 e2 e3).gfz z1 (gfL_at (tk.gf c (List.mem_of_getElem? e1)) e2)
      cases hnew : new' with
      | nil =>
        have hn0 : new = [] := List.length_eq_zero_iff.1 (by rw [← n2, hnew]; rfl)
        subst hn0
        have tko : TkOk W1 G ⟨tt.es, tt.ty, tt.b, tt.l⟩ := (tk.z z1)
        refine ⟨_, .sl tt.es tt.b 0 tt.l.length, G, ?_, ?_, fs1.up (Wd.newt_up (t := ⟨tt.es, tt.ty, tt.b, tt.l⟩) tn), ⟨nx1.r, nx1.z, nx1.nw, sm1.newt tn free tko, nx1.hl, nx1.gl, fun c hc hf => ⟨Wd.newt_free (fr1 c hf) (hf.2.1 _ tt ht), rfl⟩⟩, .all _, ?_⟩
        · simp only [evI, evAppend, n1, hnew, hy, if_true, List.isEmpty_nil]
        · rw [List.append_nil]
          exact newt_own (W := W1) hne
        · simp only [touch, hy]
          exact .del _ (fun b b' e q => hs.tb _ tt b b' ht (by rw [← r1]; exact e) q) hlt
      | cons c0 r0 =>
        have hne' : new'.isEmpty = false := by rw [hnew]; rfl
        have hmx' : tt.l.length + new'.length ≤ mxLen := by rw [n2]; exact hmx
        have tko : TkOk W1 (G.set tt.b .dead ++ [.cells 1 tt.ty (cs ++ new'.flatten)]) ⟨tt.es, tt.ty, G.length, tt.l ++ new⟩ :=
          tk_app (by simp [hne]) hl2 hNg h2 h3' n2 n3' (by rw [List.getElem?_append_right (by simp)]; simp)
        have hg := (sm1.setf free .dead).grow [] [.cells 1 tt.ty (cs ++ new'.flatten)]
        rw [List.append_nil] at hg
        refine ⟨_, .sl tt.es G.length 0 (tt.l.length + new'.length), G.set tt.b .dead ++ [.cells 1 tt.ty (cs ++ new'.flatten)], ?_, ?_, fs1.up (Wd.newt_up (t := ⟨tt.es, tt.ty, G.length, tt.l ++ new⟩) tn), ⟨nx1.r, nx1.z, nx1.nw, hg.newt tn (sm1.end_free (Nat.le_refl _)) tko, nx1.hl, by simp, fun c hc hf => ⟨Wd.newt_free (fr1 c hf) (by show G.length ≠ c; omega), by rw [List.getElem?_append_left (by simpa using hc), List.getElem?_set_ne (hf.2.1 _ tt ht)]⟩⟩, .all _, ?_⟩
        · simp only [evI, evAppend, n1, hy, if_true, hne', Bool.false_eq_true, if_false]
          rw [if_pos ⟨hmx', hone⟩]
          simp only [h1]
          rw [if_pos ⟨trivial, by omega, Or.inl trivial⟩, List.drop_zero, List.take_of_length_le (by omega)]
        · have := newt_own (W := W1) (s := s) (es := tt.es) (ty := tt.ty) (b := G.length) (l := tt.l ++ new) (by simp [hne])
          rwa [List.length_append, ← n2] at this
        · simp only [touch, hy]
          exact .del _ (fun b b' e q => hs.tb _ tt b b' ht (by rw [← r1]; exact e) q) (by simp; omega)
  | _ => rw [hav] at hb; cases hb
theorem Pk.app {E : Env} {n0 : Nat} {Q : Ex → Fr → Hp → Prop} {s : St} {ty es : Nat} {a x : CX} (n : Nat) (h : nextOp s = some (.append ty es a x)) (hok : (cxOk a && cxOk x) = true) {tk : Option (Nat × Nat)} {l new : List (List AV)} (hb : baseOf (a.ev s.f) = some (tk, l)) (hx : newOf es (x.ev s.f) = some new) (hty : tkTy ty tk = true) (hh : headOk es l = true)
    (hN : ∀ c, c ∈ new → c.length = es ∧ gfL c = true ∧ c.all AV.one = true) (hmx : l.length + new.length ≤ mxLen) (r : Pk E n0 (pafter s (.own n ty (l ++ new)) (apF tk n s.f) (apH tk n s.H) (.all, .del 1000000)) Q) : Pk E n0 s Q :=
  Pk.opS h (fun _ _ _ hf_ hs => app_sim hf_ hs hok n hb hx hty hh hN hmx) r
end Go.EV

/- The pure machine: calls, ranges over functions, what is told of a state. -/
namespace Go.EV

/-! ## What is told of a state -/
theorem Pk.put {E : Env} {n0 : Nat} {Q : Ex → Fr → Hp → Prop} {s : St} (p : Pth) {v : AV} (v' : AV) (hg : s.f.get p = some v) (hv : v = v') (r : Pk E n0 (s.put p v') Q) : Pk E n0 s Q := by
  subst hv
  have : s.put p v = s := by unfold St.put; rw [Tr.set_same p s.f v hg]
  rw [this] at r; exact r
theorem Pk.heap {E : Env} {n0 : Nat} {Q : Ex → Fr → Hp → Prop} {s : St} (H : Hp) (hH : s.H = H) (r : Pk E n0 (s.heap H) Q) : Pk E n0 s Q := by
  subst hH; exact r
theorem Pk.know {E : Env} {n0 : Nat} {Q : Ex → Fr → Hp → Prop} {s : St} (p : Pth) (e b : Bool) (hg : s.f.get p = some (.bool e)) (he : e = b) (r : Pk E n0 (s.put p (.bool b)) Q) : Pk E n0 s Q :=
  Pk.put p _ hg (by rw [he]) r
theorem Pk.split {E : Env} {n0 : Nat} {Q : Ex → Fr → Hp → Prop} {s : St} (p : Pth) (e : Bool) (hg : s.f.get p = some (.bool e)) (ht : e = true → Pk E n0 (s.put p (.bool true)) Q) (hf : e = false → Pk E n0 (s.put p (.bool false)) Q) : Pk E n0 s Q := by
  cases he : e with
  | true => exact Pk.put p _ hg (by rw [he]) (ht he)
  | false => exact Pk.put p _ hg (by rw [he]) (hf he)
theorem Pk.inc {E : Env} {n0 : Nat} {Q : Ex → Fr → Hp → Prop} {s : St} (p : Pth) (i : Nat) (hg : s.f.get p = some (.int .i64 (IntKind.i64.wrap (Int.ofNat i + 1)))) (hi : i < 9223372036854775807) (r : Pk E n0 (s.put p (.int .i64 (Int.ofNat (i + 1)))) Q) : Pk E n0 s Q :=
  Pk.put p _ hg (by rw [wrap_succ hi]) r
theorem Pk.knowI {E : Env} {n0 : Nat} {Q : Ex → Fr → Hp → Prop} {s : St} (p : Pth) (e z : Int) (hg : s.f.get p = some (.int .i64 e)) (he : e = z) (r : Pk E n0 (s.put p (.int .i64 z)) Q) : Pk E n0 s Q :=
  Pk.put p _ hg (by rw [he]) r
/-- A frame of which some places are told, of the others nothing. -/
def fr (F : CF) (kn : List (Pth × AV)) : Fr := mkT F.depth F.np (ovr kn fun _ => .und)
theorem mkT_get : ∀ (p : Pth) (d n : Nat) (g : Pth → AV) (v : AV), (mkT d n g).get p = some v → v = g p ∧ ∀ f, shp d n f = true → ∃ u, f.get p = some u := by
  intro p
  induction p with
  | h =>
    intro d n g v h
    cases d with
    | zero => simp [mkT, Tr.get] at h
    | succ d => cases n with
      | zero => simp [mkT, Tr.get] at h
      | succ n =>
        simp only [mkT, Tr.get, Option.some.injEq] at h
        refine ⟨h.symm, fun f hf => ?_⟩
        cases f with
        | leaf => simp [shp] at hf
        | node l x r => exact ⟨x, rfl⟩
  | l p ih =>
    intro d n g v h
    cases d with
    | zero => simp [mkT, Tr.get] at h
    | succ d => cases n with
      | zero => simp [mkT, Tr.get] at h
      | succ n =>
        simp only [mkT, Tr.get] at h
        obtain ⟨h1, h2⟩ := ih d ((n + 1) / 2) (fun p => g (.l p)) v h
        refine ⟨h1, fun f hf => ?_⟩
        cases f with
        | leaf => simp [shp] at hf
        | node l x r =>
          simp only [shp, Bool.and_eq_true] at hf
          exact h2 l hf.1
  | r p ih =>
    intro d n g v h
    cases d with
    | zero => simp [mkT, Tr.get] at h
    | succ d => cases n with
      | zero => simp [mkT, Tr.get] at h
      | succ n =>
        simp only [mkT, Tr.get] at h
        obtain ⟨h1, h2⟩ := ih d (n / 2) (fun p => g (.r p)) v h
        refine ⟨h1, fun f hf => ?_⟩
        cases f with
        | leaf => simp [shp] at hf
        | node l x r =>
          simp only [shp, Bool.and_eq_true] at hf
          exact h2 r hf.2
theorem ovr_get {f : Fr} : ∀ (kn : List (Pth × AV)) (p : Pth), KnowsL f kn → (∃ v, ovr kn (fun _ => .und) p = v ∧ f.get p = some v) ∨ ovr kn (fun _ => .und) p = .und
  | [], p, _ => .inr rfl
  | (q, v) :: r, p, h => by
    unfold ovr
    cases e : pbeq q p with
    | true =>
      have := pbeq_eq q p e
      subst this
      exact .inl ⟨v, rfl, h.1⟩
    | false => exact ovr_get r p h.2
theorem FS.fr {W : Wd} {f f' : Fr} (h : FS W f f') {F : CF} {kn : List (Pth × AV)} (hs : shp F.depth F.np f = true) (hk : KnowsL f kn) : FS W (EV.fr F kn) f' := by
  intro p v e
  obtain ⟨h1, h2⟩ := mkT_get p _ _ _ v e
  obtain ⟨u, hu⟩ := h2 f hs
  obtain ⟨v', q1, q2⟩ := h p u hu
  rcases ovr_get kn p hk with ⟨w, e1, e2⟩ | e1
  · rw [e1] at h1
    rw [hu] at e2
    cases e2
    subst h1
    exact ⟨v', q1, q2⟩
  · rw [e1] at h1
    subst h1
    exact ⟨v', q1, .und _⟩
theorem SS.re {W W' : Wd} {s s' : St} (h : SS W s s') {f1 : Fr} {H1 : Hp} (hn : noD s.k = true) (hf_ : FS W' f1 s'.f) (hs : Sm W' H1 s'.H) : SS W' ⟨s.k, s.e, f1, H1⟩ s' := by
  obtain ⟨k, e, f, H⟩ := s
  obtain ⟨k', e', f', G⟩ := s'
  obtain ⟨hk, he, _, _⟩ := h
  simp only at hk he hn hf_ hs
  refine ⟨?_, he, hf_, hs⟩
  cases hk with
  | same _ h => exact .same _ h
  | dops _ _ _ _ _ _ _ => cases hn
theorem Pk.kn {E : Env} {n0 : Nat} {Q : Ex → Fr → Hp → Prop} {s : St} (F : CF) (k : List Kt) (H : Hp) (kn : List (Pth × AV)) (hk : s.k = k) (he : s.e = .norm) (hH : s.H = H) (hn : noD k = true) (hs : shp F.depth F.np s.f = true) (hg : getsL s.f kn = valsL kn) (r : Pk E n0 ⟨k, .norm, fr F kn, H⟩ Q) : Pk E n0 s Q := by
  intro hl W s' h
  have := h.re (hk ▸ hn) (h.fs.fr hs (knowsL_of hg)) h.hs
  rw [hk, he, hH] at this
  exact r (by rw [← hH]; exact hl) W s' this
/-- Boxes behind a place are forgotten. -/
theorem Pk.cut {E : Env} {n0 : Nat} {Q : Ex → Fr → Hp → Prop} {s : St} (n : Nat) (hn0 : n0 ≤ n) (hn : noD s.k = true) (r : Pk E n0 ⟨s.k, s.e, cutF n s.f, cutH n n s.H⟩ Q) : Pk E n0 s Q := by
  intro hl W s' h
  have hcl : ∀ (m : Nat) (H : Hp), (cutH n m H).length = min m H.length := fun m => by
    induction m with
    | zero => intro H; simp [cutH]
    | succ m ih =>
      intro H
      cases H with
      | nil => simp [cutH]
      | cons b r => simp only [cutH, List.length_cons, ih]; omega
  refine (r (by show n0 ≤ (cutH n n s.H).length; rw [hcl]; omega) (W.cut n) s' (h.re hn h.fs.cut (h.hs.cut n))).weak fun _ _ _ => PQ.mono (W := W) (W1 := W.cut n) (fun b hb => ?_) (fun _ _ e => e) (fun c _ hf => ⟨Wd.cut_free hf, rfl⟩) (Nat.le_refl _)
  show (if b < n then W.r b else none) = W.r b
  rw [if_pos (by omega)]
/-- Slices are frozen. -/
theorem Pk.ret {E : Env} {n0 : Nat} {Q : Ex → Fr → Hp → Prop} {s : St} (S : Nat → Bool) (hn : noD s.k = true) (r : Pk E n0 ⟨s.k, s.e, mtF (rtS S) s.f, mtH (rtS S) s.H⟩ Q) : Pk E n0 s Q := by
  intro hl W s' h
  have nx := h.hs.ret_nx S
  exact (r (Nat.le_trans hl nx.hl) _ s' (h.re hn (h.fs.go (ret_goes h.hs S)) nx.sm)).weak fun _ _ _ => PQ.mono (fun b hb => nx.eqr (Nat.lt_of_lt_of_le hb hl)) nx.z nx.fre (Nat.le_refl _)
/-- x[n] of a frozen slice, told by its elements. -/
theorem Pk.iaddr {E : Env} {n0 : Nat} {Q : Ex → Fr → Hp → Prop} {s : St} {es : Nat} {x i : CX} {l : List (List AV)} {q : IntKind} {n : Nat} {c : List AV} (h : nextOp s = some (.iaddr es x i)) (hok : (cxOk x && cxOk i) = true) (hx : x.ev s.f = .lst l) (hi : i.ev s.f = .int q (.ofNat n)) (hl : l[n]? = some c) (hc : Nat.beq c.length es = true) (r : Pk E n0 (pafter s (.cptr c 0) s.f s.H (.no, .no)) Q) : Pk E n0 s Q :=
  Pk.op 0 (f1 := s.f) (H1 := s.H) h (by
    simp only [pI, opOk, hok, cond_true, iaddrI, hx, hi, plainI, evI, evIaddr, hl, Nat.eq_of_beq_eq_true hc, if_true, Option.map_some]) r

/-! ## Calls -/
theorem nextOp_call {s : St} {g : CX} {as : List CX} (h : nextOp s = some (.call g as)) : callOf s = some (g.ev s.f, as.map (·.ev s.f)) := by
  obtain ⟨k, e, f, H⟩ := s
  cases k with
  | nil => cases h
  | cons x k =>
  cases x with
  | code c => cases h
  | blk j => cases h
  | ops l =>
    cases l with
    | nil => cases h
    | cons o l =>
    simp only [nextOp] at h
    split at h
    · rename_i hw
      simp only [Option.some.injEq] at h
      simp only [callOf, hw, h]
    · cases h
  | dops l all ts =>
    cases l with
    | nil => cases h
    | cons o l =>
    simp only [nextOp] at h
    split at h
    · rename_i hw
      simp only [Option.some.injEq] at h
      simp only [callOf, hw, h]
    · cases h
theorem Pk.callS {E : Env} {n0 : Nat} {Q : Ex → Fr → Hp → Prop} {s : St} {g : CX} {as : List CX} {v : AV} {f1 : Fr} {H1 : Hp} {t : Tch × Tch} (h : nextOp s = some (.call g as))
    (hs : ∀ W f' G, FS W s.f f' → Sm W s.H G → ∃ W' v' G1, Cl E (g.ev f') (as.map (·.ev f')) G v' G1 ∧ VS W' v v' ∧ FS W' f1 f' ∧ Nx W s.H G W' H1 G1 ∧ T1 W' t.1 (touch E f' G G1 (.call g as)).1 ∧ T2 W' H1 G1 t.2 (touch E f' G G1 (.call g as)).2)
    (r : Pk E n0 (pafter s v f1 H1 t) Q) : Pk E n0 s Q := by
  intro hln W s' hss
  obtain ⟨W', v', G1, e1, e2, e3, nx, t1, t2⟩ := hs W s'.f s'.H hss.fs hss.hs
  obtain ⟨k, e, f, H⟩ := s
  obtain ⟨k', e', f', G⟩ := s'
  obtain ⟨hk, he, hfs, hhs⟩ := hss
  simp only at hk he hfs hhs e1 e3 nx t1 t2
  have fin : ∀ {sa : St}, Rk E sa (PQ W' G1 n0 Q) → Rk E sa (PQ W G n0 Q) := fun hh => hh.weak fun _ _ _ => PQ.mono (fun b hb => nx.eqr (Nat.lt_of_lt_of_le hb hln)) nx.z nx.fre nx.gl
  cases hk with
  | same _ hn =>
    cases k with
    | nil => cases h
    | cons x k =>
    cases x with
    | code c => cases h
    | blk j => cases h
    | dops l all ts => cases hn
    | ops l =>
      cases l with
      | nil => cases h
      | cons o l =>
      simp only [nextOp] at h
      split at h
      · rename_i hw
        simp only [Option.some.injEq] at h
        refine Rk.call (g := g.ev f') (as := as.map (·.ev f')) (v := v') (H1 := G1) (by simp only [callOf, wanted_sim hfs hw, h]) e1 (fin (r (Nat.le_trans hln nx.hl) W' _ ⟨.same _ (by exact hn), rfl, e3.putD o.dst e2, nx.sm⟩))
      · cases h
  | dops l all ts ts' rk hn tt =>
    cases l with
    | nil => cases h
    | cons o l =>
    simp only [nextOp] at h
    split at h
    · rename_i hw
      simp only [Option.some.injEq] at h
      refine Rk.call (g := g.ev f') (as := as.map (·.ev f')) (v := v') (H1 := G1) (by simp only [callOf, wanted_sim hfs hw, h]) e1 (fin (r (Nat.le_trans hln nx.hl) W' _ ⟨.dops _ _ _ _ _ hn (.cons (by simp only [h]; exact t1) (by simp only [h]; exact t2) (tt.nx nx)), rfl, e3.putD o.dst e2, nx.sm⟩))
    · cases h
/-- What a function in a heap of its own answers on frozen values. -/
def FnC (E : Env) (k : Nat) (vs : List AV) (v : AV) : Prop := ∀ (as caps : List AV) (G : Hp) (d : Nat), optL (frz false G 0 d) (as ++ caps) = some vs → ∃ d', optL (frz false G 0 d') (as ++ caps) = some vs ∧ Cl E (.fn k caps) as G v (((as ++ caps).flatMap (frzB G d')).foldl markRo G)
theorem T2.calls {W : Wd} {H G G1 : Hp} (hs : Sm W H G) (hk : ∀ b, W.z b = none → G1[b]? = G[b]?) (H1 : Hp) (hq : H.length ≤ 1000000) (hl : H.length ≤ H1.length) : T2 W H1 G1 (.hp H H1) (.hp G G1) := by
  refine .hp _ _ _ _ hq hl fun b b' k e1 e2 e3 => ?_
  obtain ⟨q, q', h1, h2, h3⟩ := hs.bx b b' e1
  rw [h1] at e2
  cases e2
  refine ⟨q', h2, (hk b' (hs.zb b b' e1)).trans h2, ?_⟩
  cases h3 with
  | dead k => rcases e3 with ⟨_, _, _, e⟩ | ⟨_, e⟩ <;> cases e
  | cells ty cs cs' h => exact rfl
  | map es es' hn h => exact hn
  | loop st e f f' ps a b h => rcases e3 with ⟨_, _, _, e⟩ | ⟨_, e⟩ <;> cases e
def calm0 (E : Env) (k : Nat) (vs : List AV) (H H1 : Hp) : Tch × Tch := bif E.quiet k && rgL vs then (.no, .no) else bif Nat.ble H.length 1000000 then (.all, .hp H H1) else (.all, .all)
theorem rgL_app {a b : List AV} : rgL (a ++ b) = (rgL a && rgL b) := by
  induction a with
  | nil => rfl
  | cons x r ih => simp only [List.cons_append, rgL, ih, Bool.and_assoc]
/-- A call of a function in a heap of its own. -/
theorem Pk.call {E : Env} {n0 : Nat} {Q : Ex → Fr → Hp → Prop} {s : St} {g : CX} {args : List CX} {k : Nat} {caps as vs : List AV} {v : AV} (S : Nat → Bool) (h : nextOp s = some (.call g args)) (hok : (cxOk g && cxsOk args) = true) (hg : g.ev s.f = .fn k caps) (ha : args.map (·.ev s.f) = as) (hv : frV S (as ++ caps) = vs) (hgf : gfL vs = true) (hr : hf v = true) (hc : FnC E k vs v)
    (r : Pk E n0 (pafter s v (mtF (rtS S) s.f) (mtH (rtS S) s.H) (calm0 E k (as ++ caps) s.H (mtH (rtS S) s.H))) Q) : Pk E n0 s Q := by
  simp only [Bool.and_eq_true] at hok
  refine Pk.callS h (fun W f' G hf_ hs => ?_) r
  have h1 := cx_rel hf_ hok.1
  rw [hg] at h1
  obtain ⟨caps', hg', hcaps⟩ := h1.fn_inv
  have has := cxs_rel hf_ hok.2
  rw [ha] at has
  have hall : VSL W (as ++ caps) (args.map (·.ev f') ++ caps') := has.app hcaps
  have nx := hs.ret_nx S
  have h2 := frV_VS hs hall S
  rw [hv] at h2
  obtain ⟨d, hd1, _⟩ := h2.frz nx.sm hgf
  obtain ⟨d', hd2, hcl⟩ := hc (args.map (·.ev f')) caps' G d hd1
  obtain ⟨d3, hd3, hz3⟩ := h2.frz nx.sm hgf
  have hz : InZ (W.ret S G) ((args.map (·.ev f') ++ caps').flatMap (frzB G d')) := by
    have a1 := frzL_le (Nat.le_max_left d' d3) hd2
    have a2 := frzL_le (Nat.le_max_right d' d3) hd3
    rw [← a1.2, a2.2]; exact hz3
  obtain ⟨m1, m2, m3⟩ := nx.sm.mark _ hz
  refine ⟨W.ret S G, v, _, by rw [hg']; exact hcl, .eq v hr, hf_.go (ret_goes hs S), ⟨nx.r, nx.z, nx.nw, m1, nx.hl, by rw [m3]; exact Nat.le_refl _, fun c hc hf => ⟨(nx.fre c hc hf).1, m2 c (nx.fre c hc hf).1.2.2⟩⟩, ?_⟩
  have mk2 : ∀ b, W.z b = none → (W.ret S G).z b = none ∨ True := fun _ _ => .inr trivial
  have tz : s.H.length ≤ 1000000 → T2 (W.ret S G) (mtH (rtS S) s.H) (((args.map (·.ev f') ++ caps').flatMap (frzB G d')).foldl markRo G) (.hp s.H (mtH (rtS S) s.H)) (.hp G (((args.map (·.ev f') ++ caps').flatMap (frzB G d')).foldl markRo G)) := by
    intro hq
    refine .hp _ _ _ _ hq nx.hl fun b b' k e1 e2 e3 => ?_
    have e1' : W.r b = some b' := e1
    obtain ⟨q, q', h1, h2, h3⟩ := hs.bx b b' e1'
    rw [h1] at e2
    cases e2
    refine ⟨q', h2, (m2 b' (m1.zb b b' e1)).trans h2, ?_⟩
    cases h3 with
    | dead k => rcases e3 with ⟨_, _, _, e⟩ | ⟨_, e⟩ <;> cases e
    | cells ty cs cs' h => exact rfl
    | map es es' hn h => exact hn
    | loop st e f f' ps a b h => rcases e3 with ⟨_, _, _, e⟩ | ⟨_, e⟩ <;> cases e
  unfold calm0
  cases hq : (E.quiet k && rgL (as ++ caps)) with
  | false =>
    simp only [cond_false, touch]
    cases hb : Nat.ble s.H.length 1000000 with
    | false => exact ⟨.all _, .all _⟩
    | true =>
      refine ⟨.all _, ?_⟩
      simp only [cond_true]
      split
      · exact .no _
      · exact tz (Nat.le_of_ble_eq_true hb)
  | true =>
    simp only [Bool.and_eq_true, rgL_app] at hq
    have : quietCall E (g.ev f') (args.map (·.ev f')) = true := by
      rw [hg']
      simp only [quietCall, hq.1, Bool.true_and, Bool.and_eq_true]
      rw [rgL_eq hq.2.2 hcaps, rgL_eq hq.2.1 has]
      exact ⟨rgL_hf hq.2.2, rgL_hf hq.2.1⟩
    simp only [cond_true, touch, this, if_true]
    exact ⟨.no, .no _⟩
/-- A call that answers the same in every heap, on values that are the same for both. -/
theorem Pk.callR {E : Env} {n0 : Nat} {Q : Ex → Fr → Hp → Prop} {s : St} {g : CX} {args : List CX} {k : Nat} {caps as : List AV} {v : AV} (h : nextOp s = some (.call g args)) (hok : (cxOk g && cxsOk args) = true) (hg : g.ev s.f = .fn k caps) (ha : args.map (·.ev s.f) = as) (hgf : rgL (as ++ caps) = true) (hr : hf v = true) (hc : ∀ G, Cl E (.fn k caps) as G v G)
    (r : Pk E n0 (pafter s v s.f s.H (calm0 E k (as ++ caps) s.H s.H)) Q) : Pk E n0 s Q := by
  simp only [Bool.and_eq_true] at hok
  refine Pk.callS h (fun W f' G hf_ hs => ?_) r
  have h1 := cx_rel hf_ hok.1
  rw [hg] at h1
  obtain ⟨caps', hg', hcaps⟩ := h1.fn_inv
  have has := cxs_rel hf_ hok.2
  rw [ha] at has
  rw [rgL_app, Bool.and_eq_true] at hgf
  have e1 := rgL_eq hgf.1 has
  have e2 := rgL_eq hgf.2 hcaps
  subst e2
  refine ⟨W, v, G, by rw [hg', e1]; exact hc G, .eq v hr, hf_, .refl hs, ?_⟩
  unfold calm0
  rw [rgL_app, hgf.1, hgf.2]
  cases hq : E.quiet k with
  | false =>
    simp only [Bool.false_and, cond_false, touch]
    cases hb : Nat.ble s.H.length 1000000 with
    | false => exact ⟨.all _, .all _⟩
    | true =>
      refine ⟨.all _, ?_⟩
      simp only [cond_true]
      split
      · exact .no _
      · exact T2.calls hs (fun _ _ => rfl) _ (Nat.le_of_ble_eq_true hb) (Nat.le_refl _)
  | true =>
    have : quietCall E (g.ev f') (args.map (·.ev f')) = true := by
      rw [hg', e1]
      simp only [quietCall, hq, Bool.true_and, Bool.and_eq_true]
      exact ⟨rgL_hf hgf.2, rgL_hf hgf.1⟩
    simp only [Bool.and_self, cond_true, touch, this, if_true]
    exact ⟨.no, .no _⟩

/-! ## Functions in a heap of their own -/
def pres1 (f : Fr) (H : Hp) : CR → Option AV
  | .t p => f.get p
  | .cell p n ag => match f.get p with | some (.ptr b o) => evLoad H n ag (.ptr b o) | _ => none
def one1 : List AV → AV
  | [v] => v
  | l => .tup l
def pres (F : CF) (f : Fr) (H : Hp) : Option AV := match optL (pres1 f H) F.results with
  | some l => bif gf (nf (mt (rtS fun _ => true) (one1 l))) then some (nf (mt (rtS fun _ => true) (one1 l))) else none
  | none => none
def PR (F : CF) (v : AV) : Ex → Fr → Hp → Prop := fun e f H => isEx e = false ∧ pres F f H = some v
theorem pres_sim {W : Wd} {f f' : Fr} {H G : Hp} (hf_ : FS W f f') (hs : Sm W H G) : ∀ {rs : List CR} {l : List AV}, optL (pres1 f H) rs = some l → ∃ l', optL (evRes1 f' G) rs = some l' ∧ VSL W l l'
  | [], l, h => by
    simp only [optL, Option.some.injEq] at h
    subst h
    exact ⟨[], rfl, .nil⟩
  | r :: rs, l, h => by
    simp only [optL] at h ⊢
    split at h
    · rename_i v hv
      obtain ⟨x, hx, rfl⟩ := Option.map_eq_some_iff.1 h
      obtain ⟨l', q1, q2⟩ := pres_sim hf_ hs hx
      have : ∃ v', evRes1 f' G r = some v' ∧ VS W v v' := by
        cases r with
        | t p =>
          obtain ⟨v', a, b⟩ := hf_ p v hv
          exact ⟨v', a, b⟩
        | cell p n ag =>
          simp only [pres1] at hv
          split at hv
          · rename_i b o hp
            obtain ⟨v', a, b'⟩ := hf_ p _ hp
            obtain ⟨u, c, d⟩ := evLoad_sim hs b' hv (fun ⟨_, _, e⟩ => by cases e)
            exact ⟨u, by simp only [evRes1, a]; exact c, d⟩
          · cases hv
      obtain ⟨v', a, b⟩ := this
      exact ⟨v' :: l', by rw [a]; simp only [q1, Option.map_some], .cons b q2⟩
    · cases h
theorem one1_sim {W : Wd} {l l' : List AV} (h : VSL W l l') : VS W (one1 l) (one1 l') := by
  match l, l', h with
  | [], l', h => rw [h.nil_inv]; exact .eq _ rfl
  | [v], l', h =>
    obtain ⟨v', r, rfl, h1, h2⟩ := h.cons_inv
    rw [h2.nil_inv]; exact h1
  | a :: b :: r, l', h =>
    obtain ⟨a', r', rfl, h1, h2⟩ := h.cons_inv
    obtain ⟨b', r2, rfl, h3, h4⟩ := h2.cons_inv
    exact .tup _ _ h.1 h.2
theorem evRes_one1 {f : Fr} {H : Hp} {rs : List CR} : evRes f H rs = (optL (evRes1 f H) rs).map one1 := by
  unfold evRes
  congr 1
def W0 : Wd := ⟨fun _ => none, fun _ => none, fun _ => none⟩
theorem Sm.start : Sm W0 [] [] := ⟨fun _ _ e => (by cases e), fun _ _ _ e => (by cases e), fun _ _ e => (by cases e), fun _ _ _ _ e => (by cases e), fun _ _ _ _ e => (by cases e), fun _ _ e => (by cases e), fun _ _ e => (by cases e), fun _ _ e => (by cases e)⟩
theorem setAll_sim {W : Wd} : ∀ {ps : List Pth} {vs vs' : List AV} {f f' f1 : Fr}, FS W f f' → VSL W vs vs' → setAll ps vs f = some f1 → ∃ f1', setAll ps vs' f' = some f1' ∧ FS W f1 f1'
  | [], [], vs', f, f', f1, hf_, hv, h => by
    rw [hv.nil_inv]
    simp only [setAll, Option.some.injEq] at h
    subst h
    exact ⟨f', rfl, hf_⟩
  | [], v :: vs, vs', f, f', f1, hf_, hv, h => by cases h
  | p :: ps, [], vs', f, f', f1, hf_, hv, h => by cases h
  | p :: ps, v :: vs, vs', f, f', f1, hf_, hv, h => by
    obtain ⟨v', r, rfl, h1, h2⟩ := hv.cons_inv
    exact setAll_sim (ps := ps) (vs := vs) (hf_.set p h1) h2 h
theorem fill_get {W : Wd} : ∀ (p : Pth) (d n : Nat) (v : AV), (Tr.fillN (AV.tup []) d n).get p = some v → v = .tup []
  | .h, 0, n, v, h => by cases h
  | .h, d + 1, 0, v, h => by cases h
  | .h, d + 1, n + 1, v, h => by cases h; rfl
  | .l p, 0, n, v, h => by cases h
  | .l p, d + 1, 0, v, h => by cases h
  | .l p, d + 1, n + 1, v, h => fill_get (W := W) p d ((n + 1) / 2) v h
  | .r p, 0, n, v, h => by cases h
  | .r p, d + 1, 0, v, h => by cases h
  | .r p, d + 1, n + 1, v, h => fill_get (W := W) p d (n / 2) v h
theorem FS.fill {W : Wd} (d n : Nat) : FS W (Tr.fillN (AV.tup []) d n) (Tr.fillN (AV.tup []) d n) := fun p v h => by
  have := fill_get (W := W) p d n v h
  subst this
  exact ⟨_, h, .eq _ rfl⟩
theorem FnC.of {E : Env} {k : Nat} {F : CF} {vs : List AV} {v : AV} (hh : Has E k F) (hm : F.mode = 1) (hv : hfL vs = true) (hs : (setAll F.params vs (Tr.fillN (.tup []) F.depth F.np)).isSome = true) (r : Pk E 0 (start F vs []) (PR F v)) : FnC E k vs v := by
  intro as caps G d hd
  refine ⟨d, hd, ?_⟩
  obtain ⟨f, hf_⟩ := Option.isSome_iff_exists.1 hs
  refine Cl.mode1 (hh.pr _ _) hh.fs hm hd hf_ ?_
  obtain ⟨f1', q1, q2⟩ := setAll_sim (FS.fill (W := W0) F.depth F.np) (.eq hv) hf_
  rw [hf_] at q1
  cases q1
  have e : start F vs [] = ⟨[.code F.body], .norm, f, []⟩ := by unfold start startF; rw [hf_]; rfl
  rw [e] at r
  refine (r (Nat.zero_le _) W0 ⟨[.code F.body], .norm, f, []⟩ ⟨.same _ rfl, rfl, q2, .start⟩).weak ?_
  rintro e1 f2 G2 ⟨W', f3, H3, a, b, _, _, _, _, hx, hp⟩
  refine ⟨isEx_spec hx, ?_⟩
  unfold pres at hp
  split at hp
  · rename_i l hl
    cases hg : gf (nf (mt (rtS fun _ => true) (one1 l))) with
    | false => rw [hg] at hp; cases hp
    | true =>
      rw [hg] at hp
      cases hp
      obtain ⟨l', c1, c2⟩ := pres_sim a b hl
      have h1 := one1_sim c2
      have h2 := nf_VS (h1.go (ret_goes b fun _ => true))
      obtain ⟨d2, h3, _⟩ := h2.frz (b.ret fun _ => true) hg
      exact ⟨one1 l', d2, by rw [evRes_one1, c1]; rfl, h3⟩
  · cases hp
theorem Pk.fin {E : Env} {n0 : Nat} {s : St} {F : CF} {v v' : AV} (h : s.k.isEmpty = true) (he : isEx s.e = false) (hr : pres F s.f s.H = some v') (hv : v' = v) : Pk E n0 s (PR F v) :=
  Pk.done h ⟨he, by rw [hr, hv]⟩
/-- Of what is proved of the evaluator itself. -/
theorem FnC.old {E : Env} {k : Nat} {F : CF} (hh : Has E k F) (hm : F.mode = 1) {vs : List AV} {v : AV} (hg : gfL vs = true) (hc : ∀ H, Cl E (.fn k []) vs H v H) : FnC E k vs v := by
  intro as caps G d hd
  obtain ⟨n, hn⟩ := hc []
  obtain ⟨d1, a1, _⟩ := gfL_frz (W := W0) (H := []) hg
  cases n with
  | zero => rw [ev_zero] at hn; cases hn
  | succ n =>
  have hbig := ev_more (show n + 1 ≤ max n (max d d1) + 1 by omega) hn (fun e => by cases e)
  rw [ev_succ] at hbig
  simp only [evStep, hh.pr, hh.fs, hm, own, List.append_nil] at hbig
  have a2 := (frzL_le (show d1 ≤ max n (max d d1) by omega) a1).1
  rw [a2] at hbig
  simp only at hbig
  have b2 := frzL_le (show d ≤ max n (max d d1) by omega) hd
  refine ⟨max n (max d d1), b2.1, max n (max d d1) + 1, ?_⟩
  rw [ev_succ]
  simp only [evStep, hh.pr, hh.fs, hm, own, b2.1]
  split at hbig
  · cases hbig
  · rename_i f hf_
    split at hbig
    · cases hbig
    · rename_i e f1 H1 hne he
      split at hbig
      · rename_i v0 hv0
        split at hbig
        · rename_i v1 hv1
          simp only [Res.val.injEq] at hbig
          obtain ⟨rfl, _⟩ := hbig
          simp only [hf_, he, hv0, hv1]
        · cases hbig
      · cases hbig
    · cases hbig
end Go.EV

/- The pure machine: calls in the caller's heap, yields, ranges over functions. -/
namespace Go.EV

/-- A call that answers so, however the evaluator's state looks. -/
def PCl (E : Env) (g : AV) (as : List AV) (H : Hp) (R : AV → Hp → Prop) : Prop :=
  ∀ W g' as' G, VS W g g' → VSL W as as' → Sm W H G → ∃ W' v v' H1 G1, Cl E g' as' G v' G1 ∧ VS W' v v' ∧ Sm W' H1 G1 ∧ (H.length ≤ H1.length ∧ ∀ b, b < H.length → W'.r b = W.r b) ∧ (∀ b c, W.z b = some c → W'.z b = some c) ∧ (Fre W G W' G1 ∧ G.length ≤ G1.length) ∧ R v H1
theorem Sm.mono {W W' : Wd} {H G : Hp} (h : Sm W H G) (k : ∀ b, b < H.length → W'.r b = W.r b) : ∀ b b', W.r b = some b' → W'.r b = some b' := fun b _ e => (k b (h.lt e).1).trans e
theorem PCl.weak {E : Env} {g : AV} {as : List AV} {H : Hp} {R R' : AV → Hp → Prop} (h : PCl E g as H R) (hr : ∀ v H1, R v H1 → R' v H1) : PCl E g as H R' := fun W g' as' G a b c => by
  obtain ⟨W', v, v', H1, G1, q1, q2, q3, q4, q5, q7, q6⟩ := h W g' as' G a b c
  exact ⟨W', v, v', H1, G1, q1, q2, q3, q4, q5, q7, hr _ _ q6⟩
def undO (_ _ : Nat) (_ : List (List AV)) : AV := .und
theorem undO_goes {W W' : Wd} (hr : ∀ b b', W.r b = some b' → W'.r b = some b') (hz : ∀ b c, W.z b = some c → W'.z b = some c) : Goes W W' undO := ⟨hr, hz, fun _ _ => ⟨.und _, .und _⟩, fun _ _ _ _ => .und _⟩
def isOps : List Kt → Bool
  | .ops _ :: r => noD r
  | _ => false
theorem Pk.callP {E : Env} {n0 : Nat} {Q : Ex → Fr → Hp → Prop} {s : St} {g : CX} {args : List CX} {gv : AV} {as : List AV} {R : AV → Hp → Prop} (h : nextOp s = some (.call g args)) (hn : isOps s.k = true) (hok : (cxOk g && cxsOk args) = true) (hg : g.ev s.f = gv) (ha : args.map (·.ev s.f) = as) (hc : PCl E gv as s.H R)
    (r : ∀ v H1, R v H1 → Pk E n0 (pafter s v (mtF undO s.f) H1 (.all, .all)) Q) : Pk E n0 s Q := by
  simp only [Bool.and_eq_true] at hok
  intro hln W s' hss
  obtain ⟨k, e, f, H⟩ := s
  obtain ⟨k', e', f', G⟩ := s'
  obtain ⟨hk, he, hfs, hhs⟩ := hss
  simp only at hk he hfs hhs hn hg ha hc hln
  obtain ⟨W', v, v', H1, G1, q1, q2, q3, q4, q5, q7, q6⟩ := hc W (g.ev f') (args.map (·.ev f')) G (by rw [← hg]; exact cx_rel hfs hok.1) (by rw [← ha]; exact cxs_rel hfs hok.2) hhs
  cases k with
  | nil => cases h
  | cons x k =>
  cases x with
  | code c => cases h
  | blk j => cases h
  | dops l all ts => cases hn
  | ops l =>
    cases l with
    | nil => cases h
    | cons o l =>
    simp only [nextOp] at h
    split at h
    · rename_i hw
      simp only [Option.some.injEq] at h
      obtain ⟨rfl, hn2⟩ := hk.tail (by intros; simp)
      have := r v H1 q6 (Nat.le_trans hln q4.1) W' ⟨.ops l :: k, .norm, putD o.dst v' f', G1⟩ ⟨.same _ hn, rfl, (hfs.go (undO_goes (hhs.mono q4.2) q5)).putD o.dst q2, q3⟩
      exact Rk.call (g := g.ev f') (as := args.map (·.ev f')) (v := v') (H1 := G1) (by simp only [callOf, wanted_sim hfs hw, h]) q1 (this.weak fun _ _ _ => PQ.mono (fun b hb => q4.2 b (Nat.lt_of_lt_of_le hb hln)) q5 q7.1 q7.2)
    · cases h

/-- A function that works in the caller's heap. -/
def res0 (F : CF) (f : Fr) (H : Hp) : Option AV := (optL (pres1 f H) F.results).map one1
theorem PCl.of {E : Env} {k : Nat} {F : CF} {caps as : List AV} {H : Hp} {R : AV → Hp → Prop} (hh : Has E k F) (hm : F.mode = 0) (hs : (setAll F.params (as ++ caps) (Tr.fillN (.tup []) F.depth F.np)).isSome = true)
    (r : Pk E H.length (start F (as ++ caps) H) fun e f' H' => isEx e = false ∧ ∃ v, res0 F f' H' = some v ∧ R v H') : PCl E (.fn k caps) as H R := by
  intro W g' as' G hg has hhs
  obtain ⟨caps', rfl, hcaps⟩ := hg.fn_inv
  obtain ⟨f, hf_⟩ := Option.isSome_iff_exists.1 hs
  have e : start F (as ++ caps) H = ⟨[.code F.body], .norm, f, H⟩ := by unfold start startF; rw [hf_]; rfl
  rw [e] at r
  obtain ⟨f1', q1, q2⟩ := setAll_sim (FS.fill (W := W) F.depth F.np) (has.app hcaps) hf_
  obtain ⟨n, e1, f2, G2, hr, W', f3, H3, a, b, c, d, fr, le, hx, v, hv, hR⟩ := r (Nat.le_refl _) W ⟨[.code F.body], .norm, f1', G⟩ ⟨.same _ rfl, rfl, q2, hhs⟩
  unfold res0 at hv
  obtain ⟨l, hl, rfl⟩ := Option.map_eq_some_iff.1 hv
  obtain ⟨l', c1, c2⟩ := pres_sim a b hl
  refine ⟨W', _, one1 l', H3, G2, ?_, one1_sim c2, b, c, d, ⟨fr, le⟩, hR⟩
  exact Cl.mode0 (hh.pr _ _) hh.fs hm q1 ⟨n, e1, f2, G2, hr, isEx_spec hx, by rw [evRes_one1, c1]; rfl, rfl⟩

/-! ## Yields -/
def YR (R : AV → Hp → Prop) (e : Ex) (l : Nat) (f : Fr) (ps : List Pth) (a b : CC) (H : Hp) : Prop := match e with
  | .norm => R (.bool true) (H.set l (.loop 0 .norm f ps a b))
  | e => R (.bool false) (H.set l (.loop 2 e f ps a b))
theorem Cl.yldG {E : Env} {l : Nat} {H : Hp} {e0 : Ex} {f0 f1 : Fr} {ps : List Pth} {a b : CC} {args : List AV} {R : AV → Hp → Prop} (hl : H[l]? = some (.loop 0 e0 f0 ps a b)) (hs : setAll ps args f0 = some f1)
    (r : Rk E ⟨[.code a], .norm, f1, H⟩ fun e f2 H1 => e = .norm ∧ ∃ e3 f3 ps3 a3 b3, H1[l]? = some (.loop 0 e3 f3 ps3 a3 b3) ∧ Rk E ⟨[.code b3], .norm, f2, H1.set l (.loop 1 .norm f3 ps3 a3 b3)⟩ fun e _ H2 => ∃ e4 f4 ps4 a4 b4, H2[l]? = some (.loop 1 e4 f4 ps4 a4 b4) ∧ YR R e l f4 ps4 a4 b4 H2) :
    ∃ v H', Cl E (.yld l) args H v H' ∧ R v H' := by
  obtain ⟨n, e, f2, H1, hr, rfl, e3, f3, ps3, a3, b3, h3, n2, e2, f5, H2, hr2, e4, f4, ps4, a4, b4, h4, hR⟩ := r
  obtain ⟨e6, f6, H6, q1, q2⟩ := runK_code hr
  simp only [runK, Res.ok.injEq] at q2
  obtain ⟨rfl, rfl, rfl⟩ := q2
  obtain ⟨e7, f7, H7, q3, q4⟩ := runK_code hr2
  simp only [runK, Res.ok.injEq] at q4
  obtain ⟨rfl, rfl, rfl⟩ := q4
  have q1 := ev_more (Nat.le_max_left n n2) q1 (fun e => by cases e)
  have q3 := ev_more (Nat.le_max_right n n2) q3 (fun e => by cases e)
  cases e7 with
  | norm =>
    refine ⟨_, _, ⟨max n n2 + 1, ?_⟩, hR⟩
    rw [ev_succ]
    simp only [evStep, hl, hs, q1, h3, q3, h4]
  | ret =>
    refine ⟨_, _, ⟨max n n2 + 1, ?_⟩, hR⟩
    rw [ev_succ]
    simp only [evStep, hl, hs, q1, h3, q3, h4]
  | exit i =>
    refine ⟨_, _, ⟨max n n2 + 1, ?_⟩, hR⟩
    rw [ev_succ]
    simp only [evStep, hl, hs, q1, h3, q3, h4]
theorem Sm.loop_at {W : Wd} {H G : Hp} (hs : Sm W H G) {l l' : Nat} (hr : W.r l = some l') {st : Nat} {e : Ex} {f : Fr} {ps : List Pth} {a b : CC} (h : H[l]? = some (.loop st e f ps a b)) : ∃ f', G[l']? = some (.loop st e f' ps a b) ∧ FS W f f' := by
  obtain ⟨k, k', h1, h2, h3⟩ := hs.bx l l' hr
  rw [h] at h1
  cases h1
  cases h3 with
  | loop _ _ _ f' _ _ _ h4 => exact ⟨f', h2, h4⟩
theorem PCl.yld {E : Env} {l : Nat} {H : Hp} {e0 : Ex} {f0 f1 : Fr} {ps : List Pth} {a b : CC} {args : List AV} {R : AV → Hp → Prop} (hl : H[l]? = some (.loop 0 e0 f0 ps a b)) (hs : setAll ps args f0 = some f1)
    (r : Pk E H.length ⟨[.code a], .norm, f1, H⟩ fun e f2 H1 => e = .norm ∧ ∃ e3 f3 ps3 a3 b3, H1[l]? = some (.loop 0 e3 f3 ps3 a3 b3) ∧ Pk E H.length ⟨[.code b3], .norm, f2, H1.set l (.loop 1 .norm f3 ps3 a3 b3)⟩ fun e _ H2 => ∃ e4 f4 ps4 a4 b4, H2[l]? = some (.loop 1 e4 f4 ps4 a4 b4) ∧ YR R e l f4 ps4 a4 b4 H2) :
    PCl E (.yld l) args H R := by
  intro W g' as' G hg has hhs
  obtain ⟨l', rfl, hr⟩ := hg.yld_inv
  have hlt := (hhs.lt hr).1
  obtain ⟨f0', q1, q2⟩ := hhs.loop_at hr hl
  obtain ⟨f1', q3, q4⟩ := setAll_sim q2 has hs
  have := Cl.yldG (E := E) (l := l') (H := G) (args := as') (R := fun v' G1 => ∃ W' v H1, VS W' v v' ∧ Sm W' H1 G1 ∧ (H.length ≤ H1.length ∧ ∀ b, b < H.length → W'.r b = W.r b) ∧ (∀ b c, W.z b = some c → W'.z b = some c) ∧ (Fre W G W' G1 ∧ G.length ≤ G1.length) ∧ R v H1) q1 q3 ((r (Nat.le_refl _) W ⟨[.code a], .norm, f1', G⟩ ⟨.same _ rfl, rfl, q4, hhs⟩).weak ?_)
  · obtain ⟨v', G1, h1, W', v, H1, h2, h3, h4, h5, h7, h6⟩ := this
    exact ⟨W', v, v', H1, G1, h1, h2, h3, h4, h5, h7, h6⟩
  rintro _ f2' G1 ⟨W1, f2, H1, a1, b1, c1, d1, fr1, le1, rfl, e3, f3, ps3, a3, b3, h3, r2⟩
  have hr1 := (c1.2 l hlt).trans hr
  obtain ⟨f3', p1, p2⟩ := b1.loop_at hr1 h3
  refine ⟨rfl, e3, f3', ps3, a3, b3, p1, (r2 (by rw [List.length_set]; exact c1.1) W1 ⟨[.code b3], .norm, f2', G1.set l' (.loop 1 .norm f3' ps3 a3 b3)⟩ ⟨.same _ rfl, rfl, a1, b1.setb hr1 (.loop 1 .norm _ _ ps3 a3 b3 p2)⟩).weak ?_⟩
  rintro e5 f5' G2 ⟨W2, f5, H2, a2, b2, c2, d2, fr2, le2, e4, f4, ps4, a4, b4, h4, hY⟩
  have hr2 := (c2.2 l hlt).trans hr1
  obtain ⟨f4', p3, p4⟩ := b2.loop_at hr2 h4
  have rm : ∀ k4 : Blk, H.length ≤ (H2.set l k4).length ∧ ∀ b, b < H.length → W2.r b = W.r b := fun k4 => ⟨by rw [List.length_set]; exact c2.1, fun b hb => (c2.2 b hb).trans (c1.2 b hb)⟩
  have zm : ∀ b c, W.z b = some c → W2.z b = some c := fun b c e => d2 b c (d1 b c e)
  have hl' : ∀ c, W1.free c → c ≠ l' := fun c hf e => hf.1 l (by rw [e]; exact hr1)
  have le1 : G.length ≤ G1.length := le1
  have le2 : (G1.set l' (.loop 1 .norm f3' ps3 a3 b3)).length ≤ G2.length := le2
  rw [List.length_set] at le2
  have frm : ∀ k4 : Blk, Fre W G W2 (G2.set l' k4) := fun k4 c hc hf => by
    obtain ⟨x1, x2⟩ := fr1 c hc hf
    obtain ⟨x3, x4⟩ := fr2 c (by show c < (G1.set l' (.loop 1 .norm f3' ps3 a3 b3)).length; rw [List.length_set]; omega) x1
    have hne := hl' c x1
    rw [List.getElem?_set_ne (fun e => hne e.symm)] at x4
    exact ⟨x3, by rw [List.getElem?_set_ne (fun e => hne e.symm)]; exact x4.trans x2⟩
  have lem : ∀ k4 : Blk, G.length ≤ (G2.set l' k4).length := fun k4 => by
    rw [List.length_set]
    omega
  refine ⟨e4, f4', ps4, a4, b4, p3, ?_⟩
  cases e5 with
  | norm => exact ⟨W2, _, _, .eq _ rfl, b2.setb hr2 (.loop 0 .norm _ _ ps4 a4 b4 p4), rm _, zm, ⟨frm _, lem _⟩, hY⟩
  | ret => exact ⟨W2, _, _, .eq _ rfl, b2.setb hr2 (.loop 2 .ret _ _ ps4 a4 b4 p4), rm _, zm, ⟨frm _, lem _⟩, hY⟩
  | exit i => exact ⟨W2, _, _, .eq _ rfl, b2.setb hr2 (.loop 2 (.exit i) _ _ ps4 a4 b4 p4), rm _, zm, ⟨frm _, lem _⟩, hY⟩

/-! ## Ranges over functions -/
theorem Rk.rngG {E : Env} {Q : Ex → Fr → Hp → Prop} {g : CX} {ps : List Pth} {a b : CC} {k : List Kt} {f : Fr} {H : Hp} {kk : Nat} {cs : List AV} {v : AV} {H' : Hp}
    (hg : g.ev f = .fn kk cs) (hc : Cl E (.fn kk cs) [.yld H.length] (H ++ [.loop 0 .norm f ps a b]) v H') {st : Nat} {e : Ex} {f' : Fr} {ps' : List Pth} {a' b' : CC} (hl : H'[H.length]? = some (.loop st e f' ps' a' b')) (hst : (st = 0 ∧ e = .norm) ∨ st = 2) (r : Rk E ⟨k, e, f, H'.set H.length .dead⟩ Q) : Rk E ⟨.code (.rng g ps a b) :: k, .norm, f, H⟩ Q := by
  obtain ⟨m, hm⟩ := hc
  obtain ⟨n, e', f2, H2, hr, hq⟩ := r
  refine ⟨max m n + 1, e', f2, H2, ?_, hq⟩
  have hm := ev_more (Nat.le_max_left m n) hm (fun e => by cases e)
  have hr := runK_more (show n ≤ max m n + 1 by omega) hr
  rcases hst with ⟨rfl, rfl⟩ | rfl
  · rw [runK_mk (e := .norm) (f1 := f) (H1 := H'.set H.length .dead) (by rw [ev_succ]; simp only [evStep, hg, hm, hl])]
    exact hr
  · rw [runK_mk (e := e) (f1 := f) (H1 := H'.set H.length .dead) (by rw [ev_succ]; simp only [evStep, hg, hm, hl])]
    exact hr
theorem Pk.rng {E : Env} {n0 : Nat} {Q : Ex → Fr → Hp → Prop} {g : CX} {ps : List Pth} {a b : CC} {k : List Kt} {f : Fr} {H : Hp} {kk : Nat} {cs : List AV} {R : AV → Hp → Prop} (hok : cxOk g = true) (hn : noD k = true)
    (hg : g.ev f = .fn kk cs) (hc : PCl E (.fn kk cs) [.yld H.length] (H ++ [.loop 0 .norm f ps a b]) R)
    (r : ∀ v H', R v H' → ∃ st e f' ps' a' b', H'[H.length]? = some (.loop st e f' ps' a' b') ∧ ((st = 0 ∧ e = .norm) ∨ st = 2) ∧ Pk E n0 ⟨k, e, mtF undO f, H'.set H.length .dead⟩ Q) : Pk E n0 ⟨.code (.rng g ps a b) :: k, .norm, f, H⟩ Q := by
  intro hln W s' hss
  obtain ⟨k', e', f', G⟩ := s'
  obtain ⟨hk, he, hfs, hhs⟩ := hss
  simp only at hk he hfs hhs hln
  subst he
  obtain ⟨rfl, hn2⟩ := hk.tail (by intros; simp)
  have h1 := cx_rel hfs hok
  rw [hg] at h1
  obtain ⟨cs', hg', hcs⟩ := h1.fn_inv
  have up := Wd.newb_up (b' := G.length) (hhs.nor (Nat.le_refl _))
  have hb := hhs.newb (k := .loop 0 .norm f ps a b) (k' := .loop 0 .norm f' ps a b) (.loop 0 .norm f f' ps a b (hfs.up up))
  have hr : (W.newb H.length G.length).r H.length = some G.length := by
    show (if H.length = H.length then some G.length else W.r H.length) = some G.length
    rw [if_pos rfl]
  obtain ⟨W', v, v', H1, G1, q1, q2, q3, q4, q5, q7, q6⟩ := hc (W.newb H.length G.length) (.fn kk cs') [.yld G.length] _ (.fn _ _ _ (hcs.up up).1 (hcs.up up).2) (.cons (.yld _ _ hr) .nil) hb
  obtain ⟨st, e, f2, ps2, a2, b2, l1, l2, r2⟩ := r v H1 q6
  have q4m := hb.mono q4.2
  have hr2 := q4m _ _ hr
  obtain ⟨f2', p1, p2⟩ := q3.loop_at hr2 l1
  have hle : H.length ≤ H1.length := by have := q4.1; simp at this; omega
  refine Rk.rngG hg' q1 p1 l2 ((r2 (by show n0 ≤ (H1.set H.length .dead).length; rw [List.length_set]; omega) W' ⟨k, e, f', G1.set G.length .dead⟩ ⟨.same _ hn, rfl, hfs.go (undO_goes (fun b b' e => q4m b b' (up.r b b' e)) fun b c e => q5 b c (up.z b c e)), q3.setb hr2 (.dead _)⟩).weak fun _ _ _ => PQ.mono (fun b hb => ?_) (fun b c e => q5 b c (up.z b c e)) (fun c hc hf => ?_) ?_)
  · rw [q4.2 b (by simp; omega)]
    show (if b = H.length then some G.length else W.r b) = W.r b
    rw [if_neg (by omega)]
  · have hc : c < G.length := hc
    obtain ⟨x1, x2⟩ := q7.1 c (by simp; omega) (Wd.newb_free hf (by omega))
    rw [List.getElem?_append_left hc] at x2
    exact ⟨x1, by rw [List.getElem?_set_ne (by omega)]; exact x2⟩
  · have := q7.2
    simp only [List.length_append, List.length_cons, List.length_nil, List.length_set] at this ⊢
    omega
/-- Of a function in a heap of its own: its call, on frozen values. -/
theorem FnC.cl {E : Env} {k : Nat} {vs : List AV} {v : AV} (h : FnC E k vs v) (hg : gfL vs = true) : ∀ H, Cl E (.fn k []) vs H v H := by
  intro H
  obtain ⟨d, h1, h2⟩ := gfL_frz (W := W0) (H := H) hg
  obtain ⟨d', h3, h4⟩ := h vs [] H d (by rw [List.append_nil]; exact h1)
  rw [List.append_nil] at h3 h4
  have e1 := frzL_le (Nat.le_max_left d d') h1
  have e2 := frzL_le (Nat.le_max_right d d') h3
  have : vs.flatMap (frzB H d') = [] := by
    rw [← e2.2, e1.2]
    cases hb : vs.flatMap (frzB H d) with
    | nil => rfl
    | cons b r =>
      obtain ⟨c, hc⟩ := h2 b (by rw [hb]; exact List.mem_cons_self ..)
      cases hc
  rw [this] at h4
  exact h4
end Go.EV

/- The pure machine: rules for the bench. -/
namespace Go.EV

mutual
theorem mt_id : ∀ v : AV, mt (rtS fun _ => false) v = v
  | .own _ _ _ => rfl
  | .fn k cs => by simp only [mt, mtL_id cs]
  | .iface t v => by simp only [mt, mt_id v]
  | .agg cs => by simp only [mt, mtL_id cs]
  | .tup cs => by simp only [mt, mtL_id cs]
  | .und => rfl
  | .bool _ => rfl
  | .int _ _ => rfl
  | .str _ => rfl
  | .nilp => rfl
  | .ptr _ _ => rfl
  | .cptr _ _ => rfl
  | .nils => rfl
  | .emp => rfl
  | .lst _ => rfl
  | .sl _ _ _ _ => rfl
  | .nilm => rfl
  | .map _ => rfl
  | .nilf => rfl
  | .yld _ => rfl
  | .nili => rfl
  | .err => rfl
theorem mtL_id : ∀ l : List AV, mtL (rtS fun _ => false) l = l
  | [] => rfl
  | v :: r => by simp only [mtL, mt_id v, mtL_id r]
end
theorem mtF_id : ∀ f : Fr, mtF (rtS fun _ => false) f = f
  | .leaf => rfl
  | .node l x r => by simp only [mtF, mtF_id l, mt_id x, mtF_id r]
theorem mtH_id (H : Hp) : mtH (rtS fun _ => false) H = H := by
  rw [mtH_map]
  have : mtB (rtS fun _ => false) = id := by
    funext b
    cases b with
    | cells st ty cs => simp only [mtB, mtL_id, id]
    | dead => rfl
    | map es =>
      simp only [mtB, mtE_map, id]
      congr 1
      have : (fun p : AV × AV => (mt (rtS fun _ => false) p.1, mt (rtS fun _ => false) p.2)) = id := by
        funext p
        obtain ⟨a, b⟩ := p
        simp only [mt_id, id]
      rw [this, List.map_id]
    | loop st e f ps a b => simp only [mtB, mtF_id, id]
  rw [this, List.map_id]
/-- A call on values that lead to no slices that grow. -/
theorem Pk.call0 {E : Env} {n0 : Nat} {Q : Ex → Fr → Hp → Prop} {s : St} {g : CX} {args : List CX} {k : Nat} {caps as vs : List AV} {v : AV} (h : nextOp s = some (.call g args)) (hok : (cxOk g && cxsOk args) = true) (hg : g.ev s.f = .fn k caps) (ha : args.map (·.ev s.f) = as) (hv : nfL (as ++ caps) = vs) (hgf : gfL vs = true) (hr : hf v = true) (hc : FnC E k vs v)
    (r : Pk E n0 (pafter s v s.f s.H (calm0 E k (as ++ caps) s.H s.H)) Q) : Pk E n0 s Q :=
  Pk.call (fun _ => false) h hok hg ha (by unfold frV; rw [mtL_id]; exact hv) hgf hr hc (by rw [mtF_id, mtH_id]; exact r)
/-- A call on values that lead to slices that grow: these are frozen. -/
theorem Pk.callF {E : Env} {n0 : Nat} {Q : Ex → Fr → Hp → Prop} {s : St} {g : CX} {args : List CX} {k : Nat} {caps as vs : List AV} {v : AV} (h : nextOp s = some (.call g args)) (hok : (cxOk g && cxsOk args) = true) (hg : g.ev s.f = .fn k caps) (ha : args.map (·.ev s.f) = as) (hv : frV (frS (as ++ caps)) (as ++ caps) = vs) (hgf : gfL vs = true) (hr : hf v = true) (hc : FnC E k vs v)
    (r : Pk E n0 (pafter s v (mtF (rtS (frS (as ++ caps))) s.f) (mtH (rtS (frS (as ++ caps))) s.H) (calm0 E k (as ++ caps) s.H (mtH (rtS (frS (as ++ caps))) s.H))) Q) : Pk E n0 s Q :=
  Pk.call (frS (as ++ caps)) h hok hg ha hv hgf hr hc r
/-- Elements that may be appended, by their form. -/
def newOk (es : Nat) (l : List (List AV)) : Bool := l.all fun c => Nat.beq c.length es && (gfL c && c.all AV.one)
theorem newOk_spec {es : Nat} {l : List (List AV)} (h : newOk es l = true) : ∀ c, c ∈ l → c.length = es ∧ gfL c = true ∧ c.all AV.one = true := fun c hc => by
  unfold newOk at h
  rw [List.all_eq_true] at h
  have := h c hc
  simp only [Bool.and_eq_true] at this
  exact ⟨Nat.eq_of_beq_eq_true this.1, this.2.1, this.2.2⟩
/-- One element is appended. -/
theorem Pk.app1 {E : Env} {n0 : Nat} {Q : Ex → Fr → Hp → Prop} {s : St} {ty es : Nat} {a x : CX} (n : Nat) (h : nextOp s = some (.append ty es a x)) (hok : (cxOk a && cxOk x) = true) {tk : Option (Nat × Nat)} {l new : List (List AV)} (hb : baseOf (a.ev s.f) = some (tk, l)) (hx : newOf es (x.ev s.f) = some new) (hty : tkTy ty tk = true) (hh : headOk es l = true)
    (hN : newOk es new = true) (hmx : l.length + new.length ≤ mxLen) (r : Pk E n0 (pafter s (.own n ty (l ++ new)) (apF tk n s.f) (apH tk n s.H) (.all, .del 1000000)) Q) : Pk E n0 s Q :=
  Pk.app n h hok hb hx hty hh (newOk_spec hN) hmx r
/-- The run's end, some places told. -/
theorem Pk.doneK {E : Env} {n0 : Nat} {Q : Ex → Fr → Hp → Prop} {s : St} (F : CF) (e : Ex) (H : Hp) (kn : List (Pth × AV)) (hk : s.k.isEmpty = true) (he : s.e = e) (hH : s.H = H) (hs : shp F.depth F.np s.f = true) (hg : getsL s.f kn = valsL kn) (q : Q e (fr F kn) H) : Pk E n0 s Q := by
  obtain ⟨k, e', f, H'⟩ := s
  have hk : k = [] := by simpa using hk
  simp only at he hH hs hg
  subst hk; subst he; subst hH
  intro hl W s' h
  have h2 := h.re (s := ⟨[], e', f, H'⟩) rfl (h.fs.fr hs (knowsL_of hg)) h.hs
  exact Pk.done (E := E) (n0 := n0) (Q := Q) (s := ⟨[], e', fr F kn, H'⟩) rfl q hl W s' h2
/-- The state by its parts, though the way does not go on in order. -/
theorem Pk.knE {E : Env} {n0 : Nat} {Q : Ex → Fr → Hp → Prop} {s : St} (F : CF) (k : List Kt) (e : Ex) (H : Hp) (kn : List (Pth × AV)) (hk : s.k = k) (he : s.e = e) (hH : s.H = H) (hn : noD k = true) (hs : shp F.depth F.np s.f = true) (hg : getsL s.f kn = valsL kn) (r : Pk E n0 ⟨k, e, fr F kn, H⟩ Q) : Pk E n0 s Q := by
  intro hl W s' h
  have := h.re (hk ▸ hn) (h.fs.fr hs (knowsL_of hg)) h.hs
  rw [hk, he, hH] at this
  exact r (by rw [← hH]; exact hl) W s' this
/-- Round by round. -/
theorem Pk.up {E : Env} {n0 : Nat} {Q : Ex → Fr → Hp → Prop} (P : Nat → St) (n : Nat) (hs : ∀ i, i < n → Pk E n0 (P (i + 1)) Q → Pk E n0 (P i) Q) (he : Pk E n0 (P n) Q) : Pk E n0 (P 0) Q := by
  have : ∀ m, m ≤ n → Pk E n0 (P (n - m)) Q := by
    intro m
    induction m with
    | zero => intro _; exact he
    | succ m ih =>
      intro h
      have h1 := ih (by omega)
      rw [show n - m = (n - (m + 1)) + 1 by omega] at h1
      exact hs _ (by omega) h1
  have h1 := this n (Nat.le_refl _)
  rwa [Nat.sub_self] at h1
end Go.EV
namespace Go.EV
theorem VS.nil_own {W : Wd} {v' : AV} (h : VS W .nils v') (s ty : Nat) : VS W (.own s ty []) v' := by
  cases h; exact .ownn s ty
/-- A nil slice in a box: one that is to grow. -/
theorem Pk.nilH {E : Env} {n0 : Nat} {Q : Ex → Fr → Hp → Prop} {s : St} (b o t ty : Nat) {ty' : Nat} {cs : List AV} {H : Hp} (hn : noD s.k = true) (hb : s.H[b]? = some (.cells 1 ty' cs)) (ho : cs[o]? = some .nils) (hH : s.H.set b (.cells 1 ty' (cs.set o (.own t ty []))) = H) (r : Pk E n0 ⟨s.k, s.e, s.f, H⟩ Q) : Pk E n0 s Q := by
  intro hl W s' h
  subst hH
  refine r (by show n0 ≤ (List.set s.H _ _).length; rw [List.length_set]; exact hl) W s' (h.re hn h.fs ?_)
  have hs := h.hs
  refine ⟨fun c c' e => ?_, hs.bi, hs.tk, hs.ti, hs.tb, hs.rz, hs.zb, hs.zt⟩
  obtain ⟨k, k', h1, h2, h3⟩ := hs.bx c c' e
  by_cases ec : b = c
  · subst ec
    rw [hb] at h1
    cases h1
    refine ⟨_, k', List.getElem?_set_self (List.getElem?_eq_some_iff.1 hb).1, h2, ?_⟩
    cases h3 with
    | cells _ _ cs' h4 =>
      refine .cells _ _ _ ⟨by rw [List.length_set]; exact h4.1, fun i v v' e1 e2 => ?_⟩
      by_cases ei : o = i
      · subst ei
        rw [List.getElem?_set_self (List.getElem?_eq_some_iff.1 ho).1] at e1
        cases e1
        exact (h4.2 o _ v' ho e2).nil_own t ty
      · rw [List.getElem?_set_ne ei] at e1
        exact h4.2 i v v' e1 e2
  · exact ⟨k, k', by rw [List.getElem?_set_ne ec]; exact h1, h2, h3⟩
/-- A nil slice at a place: one that is to grow. -/
theorem Pk.nilF {E : Env} {n0 : Nat} {Q : Ex → Fr → Hp → Prop} {s : St} (p : Pth) (t ty : Nat) (hn : noD s.k = true) (hp : s.f.get p = some .nils) (r : Pk E n0 ⟨s.k, s.e, s.f.set p (.own t ty []), s.H⟩ Q) : Pk E n0 s Q := by
  intro hl W s' h
  refine r hl W s' (h.re hn ?_ h.hs)
  obtain ⟨v', h1, h2⟩ := h.fs p _ hp
  have := h.fs.set p (h2.nil_own t ty)
  rwa [Tr.set_same p s'.f v' h1] at this
end Go.EV
namespace Go.EV
theorem Pk.callH {E : Env} {n0 : Nat} {Q : Ex → Fr → Hp → Prop} {s : St} {g : CX} {args : List CX} {gv : AV} {as : List AV} {R : AV → Hp → Prop} (H : Hp) (h : nextOp s = some (.call g args)) (hn : isOps s.k = true) (hok : (cxOk g && cxsOk args) = true) (hg : g.ev s.f = gv) (ha : args.map (·.ev s.f) = as) (hH : s.H = H) (hc : PCl E gv as H R)
    (r : ∀ v H1, R v H1 → Pk E n0 (pafter s v (mtF undO s.f) H1 (.all, .all)) Q) : Pk E n0 s Q := by
  subst hH
  exact Pk.callP h hn hok hg ha hc r
/-- A slice's slice, told by its elements. -/
theorem Pk.slice {E : Env} {n0 : Nat} {Q : Ex → Fr → Hp → Prop} {s : St} {es : Nat} {x : CX} {lo hi mx : Option CX} {xv : AV} {n la ha : Nat} {mv : Option Nat} {v : AV} (h : nextOp s = some (.slice es x lo hi mx)) (hok : opOk (.slice es x lo hi mx) = true) (hx : x.ev s.f = xv) (hn : evLen s.H xv = some n) (hl : optOf s.f 0 lo = some la) (hh : optOf s.f n hi = some ha) (hm : mx.map (fun m => natOf (m.ev s.f)) = mv.map some) (he : evSlice es xv la ha mv = some v)
    (r : Pk E n0 (pafter s v s.f s.H (.no, .no)) Q) : Pk E n0 s Q := by
  refine Pk.op 0 (f1 := s.f) (H1 := s.H) h ?_ r
  simp only [pI, hok, cond_true, plainI, evI, hx, hn, hl, hh]
  cases mx with
  | none =>
    cases mv with
    | none => simp only [he, Option.map_some]
    | some m => cases hm
  | some m =>
    cases mv with
    | none => cases hm
    | some m' =>
      simp only [Option.map_some, Option.some.injEq] at hm
      simp only [hm, he, Option.map_some]
theorem slice_of {es : Nat} {l r : List (List AV)} {lo hi : Nat} (h1 : headOk es l = true) (h2 : lo ≤ hi) (h3 : hi ≤ l.length) (h4 : (l.drop lo).take (hi - lo) = r) : evSlice es (.lst l) lo hi none = some (.lst r) := by
  simp only [evSlice, if_pos (And.intro h1 (And.intro h2 h3)), h4]
theorem slice_of3 {es : Nat} {l r : List (List AV)} {lo hi m : Nat} (h1 : headOk es l = true) (h2 : lo ≤ hi) (h3 : hi ≤ m) (h5 : m ≤ l.length) (h4 : (l.drop lo).take (hi - lo) = r) : evSlice es (.lst l) lo hi (some m) = some (.lst r) := by
  have h6 : hi ≤ l.length := by omega
  simp only [evSlice, if_pos (And.intro h1 (And.intro h2 h6))]
  split
  · rename_i h
    obtain ⟨_, rfl⟩ := h
    rw [Nat.sub_self, List.take_zero] at h4
    rw [h4]
  · rw [if_pos ⟨h3, h5⟩, h4]
end Go.EV
namespace Go.EV
/-- A box is looked at no more. -/
theorem Pk.drop {E : Env} {n0 : Nat} {Q : Ex → Fr → Hp → Prop} {s : St} (b : Nat) {H : Hp} (hn : noD s.k = true) (hH : s.H.set b .dead = H) (r : Pk E n0 ⟨s.k, s.e, s.f, H⟩ Q) : Pk E n0 s Q := by
  intro hl W s' h
  subst hH
  refine r (by show n0 ≤ (List.set s.H _ _).length; rw [List.length_set]; exact hl) W s' (h.re hn h.fs ?_)
  have hs := h.hs
  refine ⟨fun c c' e => ?_, hs.bi, hs.tk, hs.ti, hs.tb, hs.rz, hs.zb, hs.zt⟩
  obtain ⟨k, k', h1, h2, h3⟩ := hs.bx c c' e
  by_cases ec : b = c
  · subst ec
    exact ⟨_, k', List.getElem?_set_self (List.getElem?_eq_some_iff.1 h1).1, h2, .dead _⟩
  · exact ⟨k, k', by rw [List.getElem?_set_ne ec]; exact h1, h2, h3⟩
end Go.EV

/- The pure machine: loops with early ends; texts by their bytes. -/
namespace Go.EV
/-- Round by round, as long as each round is good. -/
theorem Pk.upG {E : Env} {n0 : Nat} {Q : Ex → Fr → Hp → Prop} (P : Nat → St) (g : Nat → Prop) (n : Nat) (hs : ∀ i, i < n → (g i → Pk E n0 (P (i + 1)) Q) → Pk E n0 (P i) Q) (he : (∀ j, j < n → g j) → Pk E n0 (P n) Q) : Pk E n0 (P 0) Q := by
  suffices h : ∀ k i, i + k = n → (∀ j, j < i → g j) → Pk E n0 (P i) Q from h n 0 (by omega) (fun j hj => by omega)
  intro k
  induction k with
  | zero => intro i hi hg; cases hi; exact he hg
  | succ k ih =>
    intro i hi hg
    refine hs i (by omega) fun hgi => ih (i + 1) (by omega) fun j hj => ?_
    by_cases e : j = i
    · exact e ▸ hgi
    · exact hg j (by omega)
/-- s[n] of a text. -/
theorem Pk.index {E : Env} {n0 : Nat} {Q : Ex → Fr → Hp → Prop} {s : St} {x i : CX} {l : List Nat} {q : IntKind} {n : Nat} {c : Nat} (h : nextOp s = some (.index x i)) (hok : (cxOk x && cxOk i) = true) (hx : x.ev s.f = .str l) (hi : i.ev s.f = .int q (.ofNat n)) (hl : l[n]? = some c) (r : Pk E n0 (pafter s (.int .u8 (Int.ofNat c)) s.f s.H (.no, .no)) Q) : Pk E n0 s Q :=
  Pk.op 0 (f1 := s.f) (H1 := s.H) h (by
    simp only [pI, opOk, hok, cond_true, plainI, evI, evIdx, hx, hi, hl, Option.map_some]
    rfl) r
/-- A function's own form, in another mode. -/
abbrev CF.pure (F : CF) : CF := { F with mode := 1 }
abbrev CF.open (F : CF) : CF := { F with mode := 0 }
end Go.EV
