/- Code: what is owed; marks; scopes. -/
import Derived.Test.YtkcabichlinkmaaGreatDoorHM4
import Derived.Sort.LoopGhostIn
import Derived.Scope
namespace Go.EV
open Go.RowKit
variable {P : Program} {Fb : Fz}

def exq : Ex → Exit
  | .norm => .normal
  | .ret => .ret
  | .exit i => .exit i
/-- A block that a mark names: out of sight, and still empty. -/
structure Jk (m : Mp) (F : Fz) (H : Hp) (w : World) (D : Nat) : Prop where
  at_ : w.heap[D]? = some (.deferred (some []))
  fz : F D = none
  mp : ∀ b p, m b = some p → mutAt H b → p.c ≠ D
theorem Jk.lt {m : Mp} {F : Fz} {H : Hp} {w : World} {D : Nat} (h : Jk m F H w D) : D < w.heap.size := (Array.getElem?_eq_some_iff.1 h.at_).1
theorem Jk.mono {m m' : Mp} {F F' : Fz} {H H' : Hp} {w w' : World} {D : Nat} (h : Jk m F H w D) (g : Gs m F H w m' F' H' w') : Jk m' F' H' w' D := by
  refine ⟨(g.fr D h.lt fun b p hb hp hm => h.mp b p hb hm hp).trans h.at_, ?_, fun b p hb hm hp => ?_⟩
  · cases hF : F' D with
    | none => rfl
    | some o =>
      rcases g.nf D o hF h.fz with h1 | ⟨b, p, h1, h2, h3⟩
      · have := h.lt; omega
      · exact absurd h2 (h.mp b p h1 h3)
  · cases hmb : m b with
    | some p0 =>
      have := g.ml b p0 hmb
      rw [hb] at this; cases this
      exact h.mp b p hmb (g.mu b p hmb hm) hp
    | none =>
      rcases g.nw b p hb hmb with h1 | ⟨b0, p0, h1, h2, h3⟩
      · have := h.lt; omega
      · exact h.mp b0 p0 h1 h3 (h2.trans hp)
def mark (D : Nat) : Deferred := { target := .collected D, args := #[] }
/-- Marks that were laid. -/
def Dfr (a a' : Act) (w : World) (m' : Mp) (F' : Fz) (H' : Hp) (w' : World) : Prop := ∃ ds : List Nat, a'.defers = ds.map mark ++ a.defers ∧ ds.Nodup ∧ ∀ D ∈ ds, w.heap.size ≤ D ∧ Jk m' F' H' w' D
theorem Dfr.same {a a' : Act} {w w' : World} {m' : Mp} {F' : Fz} {H' : Hp} (h : a'.defers = a.defers) : Dfr a a' w m' F' H' w' := ⟨[], h, List.nodup_nil, fun D hD => by cases hD⟩
theorem Dfr.trans {a a1 a2 : Act} {w w1 w2 : World} {m1 m2 : Mp} {F1 F2 : Fz} {H1 H2 : Hp} (h : Dfr a a1 w m1 F1 H1 w1) (k : Dfr a1 a2 w1 m2 F2 H2 w2) (hs : w.heap.size ≤ w1.heap.size) (g : Gs m1 F1 H1 w1 m2 F2 H2 w2) : Dfr a a2 w m2 F2 H2 w2 := by
  obtain ⟨ds, h1, h2, h3⟩ := h
  obtain ⟨es, k1, k2, k3⟩ := k
  refine ⟨es ++ ds, by rw [k1, h1, List.map_append, List.append_assoc], ?_, fun D hD => ?_⟩
  · rw [List.nodup_append]
    refine ⟨k2, h2, fun x hx y hy e => ?_⟩
    have h4 := (k3 x hx).1
    have h5 := (h3 y hy).2.lt
    omega
  · rcases List.mem_append.1 hD with hD | hD
    · exact ⟨Nat.le_trans hs (k3 D hD).1, (k3 D hD).2⟩
    · exact ⟨(h3 D hD).1, (h3 D hD).2.mono g⟩

def Rnd (rd : Option Nat) (w : World) : Prop := ∀ l, rd = some l → ∃ r, w.heap[l]? = some (.loop r)
theorem Rnd.mono {rd : Option Nat} {m m' : Mp} {F F' : Fz} {H H' : Hp} {w w' : World} (h : Rnd rd w) (g : Gs m F H w m' F' H' w') : Rnd rd w' := fun l e => by
  obtain ⟨r, hr⟩ := h l e
  obtain ⟨r', hr', _⟩ := g.lp l r hr
  exact ⟨r', hr'⟩

/-- What is handed on behind a piece of code. -/
def Post (P : Program) (Fb : Fz) (Q : Exit → Act → World → Prop) (m : Mp) (F : Fz) (H : Hp) (a : Act) (w : World) (e : Ex) (f' : Fr) (H' : Hp) : Prop :=
  ∀ m' F' a' w', FRel m' F' f' a'.tmps → WR P Fb m' F' H' w' → Gs m F H w m' F' H' w' → Dfr a a' w m' F' H' w' → a'.tmps.size = a.tmps.size → Q (exq e) a' w'
def CodeS (B : Fence) (P : Program) (Fb : Fz) (rec : Task → Res) : Prop :=
  ∀ (cc : CC) (f : Fr) (H : Hp) (e : Ex) (f' : Fr) (H' : Hp), rec (.code cc f H) = .ok e f' H' → ∀ (code : Code), compC P code = some cc → ∀ (m : Mp) (F : Fz) (a : Act) (w : World) (rd : Option Nat) (Q : Exit → Act → World → Prop),
    FRel m F f a.tmps → WR P Fb m F H w → Rnd rd w → Post P Fb Q m F H a w e f' H' → code.wpIn (fen B rd) 0 P Q a w

theorem Post.after {Q Q' : Exit → Act → World → Prop} {m m1 : Mp} {F F1 : Fz} {H H1 : Hp} {a a1 : Act} {w w1 : World} {e : Ex} {f' : Fr} {H' : Hp} (k : Post P Fb Q m F H a w e f' H') (g : Gs m F H w m1 F1 H1 w1) (d : Dfr a a1 w m1 F1 H1 w1) (hs : a1.tmps.size = a.tmps.size) (hq : ∀ a w, Q (exq e) a w → Q' (exq e) a w) : Post P Fb Q' m1 F1 H1 a1 w1 e f' H' :=
  fun m' F' a' w' q1 q2 q3 q4 q5 => hq a' w' (k m' F' a' w' q1 q2 (g.trans q3) (d.trans q4 g.sz q3) (q5.trans hs))

section
variable {b : Frame} {a : Act} {k : List Item} {cs : List Frame} {w : World}
theorem stepR_scope {c : Code} : step P (lone (b.atR a (.code (.scope c) :: k)) cs w) = .next (lone (b.atR a (.code c :: .inScope c :: k)) cs w) :=
  step_lone_go (by simp [stepG, stepG.exec, Frame.atR])
theorem stepR_inScope {c : Code} : step P (lone (b.atR a (.inScope c :: k)) cs w) = .next (lone (b.atR a k) cs w) :=
  step_lone_go (by simp [stepG, stepG.exec, Frame.atR])
end
theorem exitTo_scope (id : Nat) (c : Code) (k : List Item) : exitTo id (.inScope c :: k) = exitTo id k := by simp [exitTo]
theorem wpIn_scope {F : Fence} {n : Nat} {Q : Exit → Act → World → Prop} {a : Act} {w : World} {c : Code} (h : c.wpIn F n P (Exit.noGoto Q) a w) : (Code.scope c).wpIn F n P Q a w := by
  intro b k cs hro hb hr
  have h0 : (lone (b.atR a (.code (.scope c) :: k)) cs w).fenced P F := fenced_calm hb hr rfl
  obtain ⟨e, a₁, w₁, hq, harr⟩ := h b (.inScope c :: k) cs hro hb hr
  cases e with
  | normal => exact ⟨.normal, a₁, w₁, hq, .head h0 stepR_scope (StepsIn.trans harr (.one (fenced_calm hb hr rfl) stepR_inScope))⟩
  | exit id => exact ⟨.exit id, a₁, w₁, hq, fun k' hk => .head h0 stepR_scope (harr.1 k' (by rw [exitTo_scope]; exact hk)), fun hr' hk => let ⟨k₁, h1, h2⟩ := harr.2 hr' (by rw [exitTo_scope]; exact hk); ⟨k₁, h1, .head h0 stepR_scope h2⟩⟩
  | goto l => exact hq.elim
  | ret => exact ⟨.ret, a₁, w₁, hq, .of_steps (.one h0 stepR_scope) harr⟩
  | panic ch => exact ⟨.panic ch, a₁, w₁, hq, .of_steps (.one h0 stepR_scope) harr⟩
  | outgrown => exact ⟨.outgrown, a₁, w₁, hq, .of_steps (.one h0 stepR_scope) harr⟩
end Go.EV

/- Code, but for ranges over functions and open bools. -/
namespace Go.EV
open Go.RowKit
variable {P : Program} {Fb : Fz}

theorem evOps_norm {rec : Task → Res} : ∀ (cos : List CO) (f : Fr) (H : Hp) (e : Ex) (f' : Fr) (H' : Hp), evOps rec cos f H = .ok e f' H' → e = .norm
  | [], f, H, e, f', H', h => by simp only [evOps, Res.ok.injEq] at h; exact h.1.symm
  | o :: r, f, H, e, f', H', h => by
    unfold evOps at h
    split at h
    · split at h
      · exact evOps_norm r _ _ _ _ _ h
      · cases h
    · exact evOps_norm r _ _ _ _ _ h
    · cases h

/-- What is owed for ranges over functions, and for open bools. -/
def RngS (B : Fence) (P : Program) (Fb : Fz) (E : Env) (n : Nat) : Prop :=
  ∀ (g : CX) (ps : List Pth) (x y : CC) (f : Fr) (H : Hp) (e : Ex) (f' : Fr) (H' : Hp), ev E (n + 1) (.code (.rng g ps x y) f H) = .ok e f' H' → ∀ (code : Code), compC P code = some (.rng g ps x y) → ∀ (m : Mp) (F : Fz) (a : Act) (w : World) (rd : Option Nat) (Q : Exit → Act → World → Prop),
    FRel m F f a.tmps → WR P Fb m F H w → Rnd rd w → Post P Fb Q m F H a w e f' H' → code.wpIn (fen B rd) 0 P Q a w
def CoinS (B : Fence) (P : Program) (Fb : Fz) (E : Env) (n : Nat) : Prop :=
  ∀ (q t : Pth) (x y : CC) (f : Fr) (H : Hp) (e : Ex) (f' : Fr) (H' : Hp), ev E (n + 1) (.code (.coin q t x y) f H) = .ok e f' H' → ∀ (code : Code), compC P code = some (.coin q t x y) → ∀ (m : Mp) (F : Fz) (a : Act) (w : World) (rd : Option Nat) (Q : Exit → Act → World → Prop),
    FRel m F f a.tmps → WR P Fb m F H w → Rnd rd w → Post P Fb Q m F H a w e f' H' → code.wpIn (fen B rd) 0 P Q a w

theorem Post.same {Q : Exit → Act → World → Prop} {m : Mp} {F : Fz} {H : Hp} {a : Act} {w : World} {e : Ex} {f : Fr} (k : Post P Fb Q m F H a w e f H) (hf : FRel m F f a.tmps) (hw : WR P Fb m F H w) : Q (exq e) a w :=
  k m F a w hf hw (Gs.refl ..) (Dfr.same rfl) rfl

theorem code_step {B : Fence} (hB : Open B) {E : Env} {n : Nat} (ih : ∀ k, k ≤ n → CodeS B P Fb (ev E k)) (ihc : ∀ k, k ≤ n → CallS B P Fb (ev E k)) (hq : ∀ k, QuietR E (ev E k)) (hmix : P.follows .mixedOrders = true)
    (hrng : ∀ k, k ≤ n → RngS B P Fb E k) (hcoin : ∀ k, k ≤ n → CoinS B P Fb E k) : CodeS B P Fb (ev E (n + 1)) := by
  intro cc f H e f' H' h code hc m F a w rd Q hf hw hr k
  have ihn := ih n (Nat.le_refl _)
  cases code with
  | skip =>
    simp only [compC] at hc; cases hc
    rw [ev_succ] at h
    simp only [evStep, Res.ok.injEq] at h
    obtain ⟨rfl, rfl, rfl⟩ := h
    exact wpIn_skip (k.same hf hw)
  | label l =>
    simp only [compC] at hc; cases hc
    rw [ev_succ] at h
    simp only [evStep, Res.ok.injEq] at h
    obtain ⟨rfl, rfl, rfl⟩ := h
    exact wpIn_label (k.same hf hw)
  | ret =>
    simp only [compC] at hc; cases hc
    rw [ev_succ] at h
    simp only [evStep, Res.ok.injEq] at h
    obtain ⟨rfl, rfl, rfl⟩ := h
    exact wpIn_ret (k.same hf hw)
  | exit id =>
    simp only [compC] at hc; cases hc
    rw [ev_succ] at h
    simp only [evStep, Res.ok.injEq] at h
    obtain ⟨rfl, rfl, rfl⟩ := h
    exact wpIn_exit (k.same hf hw)
  | seq x y =>
    have hc0 := hc
    unfold compC at hc
    split at hc
    · split at hc
      · split at hc
        · cases hc
          exact hcoin n (Nat.le_refl _) _ _ _ _ f H e f' H' h _ hc0 m F a w rd Q hf hw hr k
        · cases hc
      · cases hc
    · cases hc
    · split at hc
      · rename_i cx cy hx hy
        cases hc
        rw [ev_succ] at h
        simp only [evStep] at h
        refine wpIn_seq ?_
        split at h
        · rename_i f1 H1 h1
          refine ihn _ f H .norm f1 H1 h1 x hx m F a w rd _ hf hw hr fun m1 F1 a1 w1 q1 q2 q3 q4 q5 => ?_
          exact ihn _ f1 H1 e f' H' h _ hy m1 F1 a1 w1 rd Q q1 q2 (hr.mono q3) (k.after q3 q4 q5 fun _ _ q => q)
        · rename_i hne
          refine ihn _ f H e f' H' h x hx m F a w rd _ hf hw hr (k.after (Gs.refl ..) (Dfr.same rfl) rfl fun a w q => ?_)
          cases e with
          | norm => exact absurd h (hne f' H')
          | ret => exact q
          | exit i => exact q
      · cases hc
  | cond x y z =>
    unfold compC at hc
    split at hc
    · rename_i cx cy cz hx hy hz
      cases hc
      rw [ev_succ] at h
      simp only [evStep] at h
      have hrel := compX_rel hf hx
      split at h
      · rename_i t ht
        rw [ht] at hrel
        generalize hax : a.eval x = vx at hrel
        cases hrel
        refine wpIn_cond hax ?_
        cases t with
        | true => exact ihn _ f H e f' H' h y hy m F a w rd Q hf hw hr k
        | false => exact ihn _ f H e f' H' h z hz m F a w rd Q hf hw hr k
      · cases h
    · cases hc
  | block id c =>
    unfold compC at hc
    obtain ⟨cc', h1, rfl⟩ := map_some hc
    rw [ev_succ] at h
    simp only [evStep] at h
    refine wpIn_block ?_
    split at h
    · rename_i i f1 H1 he
      simp only [Res.ok.injEq] at h
      obtain ⟨rfl, rfl, rfl⟩ := h
      refine ihn _ f H _ f1 H1 he c h1 m F a w rd _ hf hw hr fun m1 F1 a1 w1 q1 q2 q3 q4 q5 => ?_
      have := k m1 F1 a1 w1 q1 q2 q3 q4 q5
      show (if i = id then Q .normal a1 w1 else Q (.exit i) a1 w1)
      by_cases hi : i = id
      · subst hi; simpa [exq] using this
      · have hb : (i == id) = false := by simpa using hi
        rw [if_neg hi]
        rw [hb] at this
        exact this
    · rename_i hne
      refine ihn _ f H e f' H' h c h1 m F a w rd _ hf hw hr (k.after (Gs.refl ..) (Dfr.same rfl) rfl fun a w q => ?_)
      cases e with
      | norm => exact q
      | ret => exact q
      | exit i => exact absurd h (hne i f' H')
  | loop c =>
    unfold compC at hc
    obtain ⟨cc', h1, rfl⟩ := map_some hc
    let I : Nat → Act → World → Prop := fun j a1 w1 => j ≤ n + 1 ∧ ∃ f1 H1 m1 F1, ev E j (.code (.loop cc') f1 H1) = .ok e f' H' ∧ FRel m1 F1 f1 a1.tmps ∧ WR P Fb m1 F1 H1 w1 ∧ Gs m F H w m1 F1 H1 w1 ∧ Dfr a a1 w m1 F1 H1 w1 ∧ a1.tmps.size = a.tmps.size
    refine wpIn_loop_ghost I (n + 1) ⟨Nat.le_refl _, f, H, m, F, h, hf, hw, Gs.refl .., Dfr.same rfl, rfl⟩ ?_
    rintro j a1 w1 ⟨hj, f1, H1, m1, F1, he, q1, q2, q3, q4, q5⟩
    cases j with
    | zero => rw [ev_zero] at he; cases he
    | succ j =>
      rw [ev_succ] at he
      simp only [evStep] at he
      have ihj := ih j (by omega)
      split at he
      · rename_i f2 H2 hb
        refine ihj _ f1 H1 .norm f2 H2 hb c h1 m1 F1 a1 w1 rd _ q1 q2 (hr.mono q3) fun m2 F2 a2 w2 r1 r2 r3 r4 r5 => ?_
        exact ⟨j, by omega, by omega, f2, H2, m2, F2, he, r1, r2, q3.trans r3, q4.trans r4 q3.sz r3, r5.trans q5⟩
      · rename_i hne
        refine ihj _ f1 H1 e f' H' he c h1 m1 F1 a1 w1 rd _ q1 q2 (hr.mono q3) (k.after q3 q4 q5 fun a w q => ?_)
        cases e with
        | norm => exact absurd he (hne f' H')
        | ret => exact q
        | exit i => exact q
  | scope c =>
    unfold compC at hc
    obtain ⟨cc', h1, rfl⟩ := map_some hc
    rw [ev_succ] at h
    simp only [evStep] at h
    refine wpIn_scope (ihn _ f H e f' H' h c h1 m F a w rd _ hf hw hr (k.after (Gs.refl ..) (Dfr.same rfl) rfl fun a w q => ?_))
    cases e <;> exact q
  | rangeFunc g ps x y =>
    have hc0 := hc
    unfold compC at hc
    split at hc
    · cases hc
      exact hrng n (Nat.le_refl _) _ _ _ _ f H e f' H' h _ hc0 m F a w rd Q hf hw hr k
    · cases hc
  | region id ops draw =>
    cases draw with
    | true =>
      unfold compC at hc
      obtain ⟨cos, h1, rfl⟩ := map_some hc
      rw [ev_succ] at h
      simp only [evStep] at h
      split at h
      · rename_i f1 H1 ts he
        cases hfl : flOk cos ts with
        | false => rw [hfl] at h; cases h
        | true =>
          rw [hfl] at h
          simp only [cond_true, Res.ok.injEq] at h
          obtain ⟨rfl, rfl, rfl⟩ := h
          exact walk_draw hB (ihc n (Nat.le_refl _)) (hq n) hmix h1 he hfl hf hw fun m1 F1 a1 w1 q1 q2 q3 q4 q5 => k m1 F1 a1 w1 q1 q2 q3 (Dfr.same q4) q5
      · cases h
    | false =>
      unfold compC at hc
      obtain ⟨cos, h1, rfl⟩ := map_some hc
      rw [ev_succ] at h
      simp only [evStep] at h
      have := evOps_norm cos f H e f' H' h
      subst this
      exact walk_reg hB (ihc n (Nat.le_refl _)) h1 h hf hw fun m1 F1 a1 w1 q1 q2 q3 q4 q5 => k m1 F1 a1 w1 q1 q2 q3 (Dfr.same q4) q5
  | _ => simp only [compC] at hc; cases hc
end Go.EV

/- Ranges over functions; rounds. -/
namespace Go.EV
open Go.RowKit
variable {P : Program} {Fb : Fz}

theorem compC_rng {code : Code} {g : CX} {ps : List Pth} {x y : CC} (h : compC P code = some (.rng g ps x y)) : ∃ og pa as bo, code = .rangeFunc og pa as bo ∧ compX og = some g ∧ compPths pa.toList = some ps ∧ compC P as = some x ∧ compC P bo = some y := by
  cases code with
  | rangeFunc og pa as bo =>
    unfold compC at h
    split at h
    · cases h; exact ⟨_, _, _, _, rfl, ‹_›, ‹_›, ‹_›, ‹_›⟩
    · cases h
  | region id ops draw =>
    cases draw <;> (unfold compC at h; obtain ⟨c, _, h2⟩ := map_some h; cases h2)
  | seq a b =>
    unfold compC at h
    repeat' split at h
    all_goals cases h
  | cond a b c =>
    unfold compC at h
    repeat' split at h
    all_goals cases h
  | block id c => unfold compC at h; obtain ⟨c, _, h2⟩ := map_some h; cases h2
  | loop c => unfold compC at h; obtain ⟨c, _, h2⟩ := map_some h; cases h2
  | scope c => unfold compC at h; obtain ⟨c, _, h2⟩ := map_some h; cases h2
  | _ => simp only [compC] at h; cases h

/-- A loop's record behind a block that says so. -/
theorem loop_at {m : Mp} {F : Fz} {H : Hp} {w : World} (hw : WR P Fb m F H w) {b st : Nat} {pend : Ex} {f : Fr} {ps : List Pth} {x y : CC} {p : Pl} (hm : m b = some p) (hb : H[b]? = some (.loop st pend f ps x y)) :
    ∃ r : Loop, w.heap[p.c]? = some (.loop r) ∧ stR st r.state ∧ (st ≠ 1 → exR pend r.pending) ∧ FRel m F f r.tmps ∧ compPths r.params.toList = some ps ∧ compC P r.assign = some x ∧ compC P r.body = some y := by
  obtain ⟨k, hk, hbr⟩ := hw.blk b p hm
  rw [hb] at hk; cases hk
  exact hbr

/-- The record is turned. -/
theorem loop_turn {m : Mp} {F : Fz} {H : Hp} {w : World} (hw : WR P Fb m F H w) {b st : Nat} {pend : Ex} {f : Fr} {ps : List Pth} {x y : CC} {p : Pl} (hm : m b = some p) (hb : H[b]? = some (.loop st pend f ps x y)) {r : Loop} (hr : w.heap[p.c]? = some (.loop r))
    (k : Blk) (r' : Loop) (hs : SameL r r') (hk : BR P m F (w.putObj p.c (.loop r')) k p) : WR P Fb m F (H.set b k) (w.putObj p.c (.loop r')) ∧ Gs m F H w m F (H.set b k) (w.putObj p.c (.loop r')) :=
  hw.turn hm ⟨_, hb, trivial⟩ k (.loop r') hk fun r2 h2 => by rw [hr] at h2; cases h2; exact ⟨r', rfl, hs⟩

theorem rng_step {B : Fence} (hB : Open B) {E : Env} {n : Nat} (ihc : CallS B P Fb (ev E n)) : RngS B P Fb E n := by
  intro g ps x y f H e f' H' h code hc m F a w rd Q hf hw hr k
  obtain ⟨og, pa, as, bo, rfl, hg, hps, has, hbo⟩ := compC_rng hc
  rw [ev_succ] at h
  simp only [evStep] at h
  have hgr := compX_rel hf hg
  split at h
  · rename_i kf kc hgf
    rw [hgf] at hgr
    split at h
    · rename_i v H2 hcall
      refine wpIn_rangeFunc fun fn _ => ?_
      -- the record is laid
      have laid : ∀ (F1 : Fz) (W : World) (l : Nat) (W1 : World) (dfs : Nat), WR P Fb m F H W → Gs m F H w m F H W → l = W.heap.size → W1 = W.alloc (.loop { state := .ready, pending := none, fn, tmps := a.tmps, params := pa, assign := as, body := bo, defers := dfs }) →
          (∀ (u : Value) (m2 : Mp) (F2 : Fz) (w3 : World), WR P Fb m2 F2 H2 w3 → Gs m F H w m2 F2 H2 w3 → (∃ p, m2 H.length = some p ∧ p.c = l) → True) → True := fun _ _ _ _ _ _ _ _ _ _ => trivial
      clear laid
      have main : ∀ (W : World) (dfs : Nat) (mk : List Deferred), WR P Fb m F H W → Gs m F H w m F H W → (∀ m' F' H' w', Gs m F H W m' F' H' w' → Dfr a { a with defers := mk ++ a.defers } w m' F' H' w') →
          ∃ (d : Deferred) (f0 : FuncId) (args : Array Value), let l := W.heap.size; let w₁ := W.alloc (.loop { state := .ready, pending := none, fn, tmps := a.tmps, params := pa, assign := as, body := bo, defers := dfs })
            (resolve a.eval (rangeCall og l) 0).run P w₁ = .ok d w₁ ∧ (invoke d.target d.args).run P w₁ = .ok (.enter f0 args) w₁ ∧ CallsIn (fen B rd) 0 P f0 args w₁ (rangePost (fen B rd) 0 P l Q { a with defers := mk ++ a.defers }) := by
        intro W dfs mk hW gW hd
        obtain ⟨w1, g1⟩ := hW.push (.loop 0 .norm f ps x y) (.loop { state := .ready, pending := none, fn, tmps := a.tmps, params := pa, assign := as, body := bo, defers := dfs }) ⟨W.heap.size, 0, 0, 0⟩ rfl
          ⟨_, heap_alloc_at W _, rfl, fun _ => rfl, hf.mono (upd_le _ hW.free) (FzLe.refl _), hps, has, hbo⟩
        obtain ⟨d, nx, r1, r2, hok, hent⟩ := ihc _ F _ _ _ _ [.yld H.length] #[.func (.yield W.heap.size) #[] #[]] v H2 w1 (hgr.mono (upd_le _ hW.free) (FzLe.refl _)) ⟨rfl, fun i v v' e1 e2 => by
          cases i with
          | zero => simp at e1 e2; subst e1; subst e2; exact VR.yld H.length ⟨W.heap.size, 0, 0, 0⟩ (upd_same _ _ _)
          | succ i => simp at e1⟩ hcall
        obtain ⟨fid, fas, rfl⟩ := hent ⟨kf, kc, rfl⟩
        refine ⟨d, fid, fas, ?_, r2, ?_⟩
        · have : resolve a.eval (rangeCall og W.heap.size) 0 = Deferred.ofValue (a.eval og) #[.func (.yield W.heap.size) #[] #[]] := by simp [resolve, Act.eval]
          rw [this]; exact r1
        · rcases hok with ⟨fid', as', e1, hci⟩ | ⟨l, fid', tm, x', y', e1, _⟩
          · cases e1
            refine CallsIn.mono (F := fen B rd) hci ?_
            rintro en w3 ⟨u, rfl, m2, F2, q1, q2, q3⟩
            have hm2 : m2 H.length = some ⟨W.heap.size, 0, 0, 0⟩ := q3.ml _ _ (upd_same _ _ _)
            have fin : ∀ (st : Nat) (pend : Ex) (f1 : Fr) (p1 : List Pth) (x1 y1 : CC), H2[H.length]? = some (.loop st pend f1 p1 x1 y1) → st ≠ 1 → e = pend → f' = f → H' = H2.set H.length .dead → rangePost (fen B rd) 0 P W.heap.size Q { a with defers := mk ++ a.defers } (.returned u) w3 := by
              intro st pend f1 p1 x1 y1 hb hst he hf' hH'
              subst he; subst hf'; subst hH'
              obtain ⟨r, hr1, hr2, hr3, _⟩ := loop_at q2 hm2 hb
              have hns : r.state ≠ .busy := by
                intro e0
                rw [e0] at hr2
                match st, hst, hr2 with
                | 0, _, h => cases h
                | 1, h, _ => exact h rfl
                | 2, _, h => cases h
              obtain ⟨t1, t2⟩ := loop_turn q2 hm2 hb hr1 .dead { r with state := .exhausted } ⟨rfl, rfl, rfl, rfl⟩ trivial
              have hend := run_endLoop (P := P) hr1 hns
              have gall : Gs m F H W m2 F2 (H2.set H.length .dead) (w3.putObj W.heap.size (.loop { r with state := .exhausted })) := (g1.trans q3).trans t2
              have hpost := k m2 F2 { a with defers := mk ++ a.defers } _ (hf.mono gall.ml gall.fl) t1 (gW.trans gall) (hd _ _ _ _ gall) rfl
              refine ⟨r.pending, _, hend, ?_⟩
              have hp := hr3 hst
              generalize w3.putObj (⟨W.heap.size, 0, 0, 0⟩ : Pl).c (.loop { r with state := .exhausted }) = w4 at hpost
              generalize r.pending = jump at hp
              cases e with
              | norm => cases (show jump = none from hp); exact hpost
              | ret => cases (show jump = some .ret from hp); exact wpIn_ret hpost
              | exit i => cases (show jump = some (.exit i) from hp); exact wpIn_exit hpost
            split at h
            · rename_i f1 p1 x1 y1 hb
              simp only [Res.ok.injEq] at h
              obtain ⟨h1, h2, h3⟩ := h
              exact fin 0 .norm _ _ _ _ hb (by decide) h1.symm h2.symm h3.symm
            · rename_i e1 f1 p1 x1 y1 hb
              simp only [Res.ok.injEq] at h
              obtain ⟨h1, h2, h3⟩ := h
              exact fin 2 e1 _ _ _ _ hb (by decide) h1.symm h2.symm h3.symm
            · cases h
          · cases e1
      cases rd with
      | none =>
        obtain ⟨wj, gj⟩ := hw.pushJunk (.deferred (some []))
        obtain ⟨d, f0, args, r1, r2, r3⟩ := main (w.alloc (.deferred (some []))) w.heap.size [mark w.heap.size] wj gj (fun m' F' H' w' g => by
          have hj : Jk m F H (w.alloc (.deferred (some []))) w.heap.size := ⟨heap_alloc_at w _, by
            cases hF : F w.heap.size with
            | none => rfl
            | some o => have := hw.Flt hF; omega, fun b p hb hm e => by have := hw.mutlt hb hm; omega⟩
          exact ⟨[w.heap.size], rfl, List.nodup_cons.2 ⟨by simp, List.nodup_nil⟩, fun D hD => by
            rw [List.mem_singleton.1 hD]; exact ⟨Nat.le_refl _, hj.mono g⟩⟩)
        rw [size_alloc'] at r1 r3
        exact ⟨w.heap.size + 1, [mark w.heap.size], _, d, _, f0, args, _, run_enterLoop_outer fn a.tmps pa as bo, r1, fun f' _ => fen_fn hB none f', r2, fen_deep hB none, r3⟩
      | some l0 =>
        obtain ⟨r0, hr0⟩ := hr l0 rfl
        obtain ⟨d, f0, args, r1, r2, r3⟩ := main w r0.defers [] hw (Gs.refl ..) (fun m' F' H' w' g => Dfr.same rfl)
        exact ⟨w.heap.size, [], _, d, _, f0, args, _, run_enterLoop_inner hr0 fn a.tmps pa as bo, r1, fun f' _ => fen_fn hB _ f', r2, fen_deep hB _, r3⟩
    · cases h
  · cases h
end Go.EV

/- Rounds. -/
namespace Go.EV
open Go.RowKit
variable {P : Program} {Fb : Fz}

theorem compPths_spec : ∀ (l : List Tmp) (ps : List Pth), compPths l = some ps → ps.length = l.length ∧ ∀ (i : Nat) (p : Pth), ps[i]? = some p → l[i]? = some p.n
  | [], ps, h => by cases h; exact ⟨rfl, fun i p e => by simp at e⟩
  | t :: r, ps, h => by
    unfold compPths at h
    split at h
    · rename_i p hp
      obtain ⟨ps', h1, rfl⟩ := map_some h
      obtain ⟨h2, h3⟩ := compPths_spec r ps' h1
      refine ⟨by simp [h2], fun i q e => ?_⟩
      cases i with
      | zero => simp at e; subst e; simp [toPth_n hp]
      | succ i => simpa using h3 i q (by simpa using e)
    · cases h
theorem setAll_rel {m : Mp} {F : Fz} : ∀ (ps : List Pth) (vs : List AV) (ts : List Tmp) (us : List Value) (f f' : Fr) (t : Array Value), compPths ts = some ps → setAll ps vs f = some f' → us.length = vs.length → (∀ (i : Nat) (v : AV) (u : Value), vs[i]? = some v → us[i]? = some u → VR m F v u) → FRel m F f t →
    FRel m F f' ((ts.zip us).foldl (fun t (p, v) => t.setIfInBounds p v) t) ∧ us.length = ts.length
  | [], [], ts, us, f, f', t, hc, hs, hl, hv, hf => by
    have := (compPths_spec ts [] hc).1
    cases ts with
    | nil =>
      cases us with
      | nil => cases hs; exact ⟨hf, rfl⟩
      | cons => simp at hl
    | cons => simp at this
  | [], _ :: _, _, _, _, _, _, _, hs, _, _, _ => by cases hs
  | _ :: _, [], _, _, _, _, _, _, hs, _, _, _ => by cases hs
  | p :: ps, v :: vs, ts, us, f, f', t, hc, hs, hl, hv, hf => by
    cases ts with
    | nil => cases hc
    | cons tt ts =>
      cases us with
      | nil => simp at hl
      | cons u us =>
        unfold compPths at hc
        split at hc
        · rename_i q hq
          obtain ⟨ps', h1, h2⟩ := map_some hc
          cases h2
          have hn := toPth_n hq
          subst hn
          simp only [setAll] at hs
          obtain ⟨r1, r2⟩ := setAll_rel ps vs ts us (f.set p v) f' (t.setIfInBounds p.n u) h1 hs (by simpa using hl) (fun i a b e1 e2 => hv (i + 1) a b (by simpa using e1) (by simpa using e2)) (hf.set p (hv 0 v u rfl rfl))
          exact ⟨by simpa using r1, by simp [r2]⟩
        · cases hc

theorem yld_step {B : Fence} (hB : Open B) {E : Env} {n : Nat} (ih : CodeS B P Fb (ev E n)) (m : Mp) (F : Fz) (H : Hp) (w : World) (l : Nat) (gv : Value) (args : List AV) (argv : Array Value) (v : AV) (H' : Hp) (hw : WR P Fb m F H w) (hg : VR m F (.yld l) gv) (ha : VRL m F args argv) (h : ev E (n + 1) (.call (.yld l) args H) = .val v H') :
    ∃ d nx, (Deferred.ofValue gv argv).run P w = .ok d w ∧ (invoke d.target d.args).run P w = .ok nx w ∧ NextOk B P Fb m F H w v H' nx ∧ ((∃ k cs, AV.yld l = .fn k cs) → ∃ fid as, nx = .enter fid as) := by
  cases hg
  rename_i p hm
  rw [ev_succ] at h
  simp only [evStep] at h
  split at h
  · rename_i pe f ps x y hb
    obtain ⟨r, hr, hst, _, hfr, hps, hx, hy⟩ := loop_at hw hm hb
    split at h
    · cases h
    rename_i f0 hset
    obtain ⟨hf0, hlen⟩ := setAll_rel ps args r.params.toList argv.toList f f0 r.tmps hps hset (by simpa using ha.1.symm) (fun i a b e1 e2 => ha.2 i a b e1 (by simpa using e2)) hfr
    have hyld := run_yield (P := P) (args := argv) hr (by simpa using hlen)
    refine ⟨{ target := .fn (.yield p.c) #[], args := argv }, .round p.c r.fn ((r.params.zip argv).foldl (fun t (t', a) => t.setIfInBounds t' a) r.tmps) r.assign r.body, ?_, ?_, .inr ⟨_, _, _, _, _, rfl, ?_⟩, fun ⟨_, _, e⟩ => by cases e⟩
    · simp [Deferred.ofValue]
    · simpa [invoke] using hyld
    have hfold : (r.params.zip argv).foldl (fun t (t', a) => t.setIfInBounds t' a) r.tmps = (r.params.toList.zip argv.toList).foldl (fun t (p, v) => t.setIfInBounds p v) r.tmps := by
      rw [← Array.foldl_toList, Array.toList_zip]
    split at h
    · rename_i f1 H1 hass
      split at h
      · rename_i pe1 f2 ps1 x1 y1 hb1
        split at h
        · rename_i e f3 H2 hbody
          split at h
          · rename_i pe3 f4 ps3 x3 y3 hb2
            refine roundIn_of_wpIn (F := fen B none) (hB.fn _) ?_
            refine ih x f0 H .norm f1 H1 hass r.assign hx m F { tmps := _, defers := [] } w (some p.c) _ (by rw [hfold]; exact hf0) hw (fun l' e => by cases e; exact ⟨r, hr⟩) fun m1 F1 a1 w1 q1 q2 q3 _ _ => ?_
            have hm1 := q3.ml _ _ hm
            obtain ⟨r1, hr1, hst1, _, hfr1, hps1, hx1, hy1⟩ := loop_at q2 hm1 hb1
            obtain ⟨r1', hr1', hsame⟩ := q3.lp p.c r hr
            rw [hr1] at hr1'; cases hr1'
            have hbeg := run_beginRound (P := P) hr1 hst1
            obtain ⟨t1, t2⟩ := loop_turn q2 hm1 hb1 hr1 (.loop 1 .norm f2 ps1 x1 y1) { r1 with state := .busy } ⟨rfl, rfl, rfl, rfl⟩
              ⟨{ r1 with state := .busy }, World.putObj_heap_same (Array.getElem?_eq_some_iff.1 hr1).1, rfl, fun h => absurd rfl h, hfr1, hps1, hx1, hy1⟩
            refine ⟨_, hbeg, ?_⟩
            refine ih y1 f1 _ e f3 H2 hbody r.body (by rw [← hsame.2.2.2]; exact hy1) m1 F1 a1 _ (some p.c) _ q1 t1 (fun l' e => by cases e; exact ⟨_, World.putObj_heap_same (Array.getElem?_eq_some_iff.1 hr1).1⟩) fun m2 F2 a2 w2 s1 s2 s3 _ _ => ?_
            have hm2 := s3.ml _ _ hm1
            obtain ⟨r3, hr3, hst3, _, hfr3, hps3, hx3, hy3⟩ := loop_at s2 hm2 hb2
            have fin : ∀ (st : Nat) (jump : Option Code), (Instr.endRound p.c jump).run P w2 = .ok (.bool jump.isNone) (w2.putObj p.c (.loop { r3 with state := if jump.isNone then .ready else .done, pending := jump })) → st ≠ 1 → stR st (if jump.isNone then .ready else .done) → exR e jump → v = .bool jump.isNone → H' = H2.set l (.loop st e f4 ps3 x3 y3) →
                ∃ u w', (Instr.endRound p.c jump).run P w2 = .ok u w' ∧ RetOk P Fb m F H w v H' (.returned u) w' := by
              intro st jump hrun h1 h2 h3 hv hH
              subst hv; subst hH
              obtain ⟨z1, z2⟩ := loop_turn s2 hm2 hb2 hr3 (.loop st e f4 ps3 x3 y3) { r3 with state := if jump.isNone then .ready else .done, pending := jump } ⟨rfl, rfl, rfl, rfl⟩
                ⟨_, World.putObj_heap_same (Array.getElem?_eq_some_iff.1 hr3).1, h2, fun _ => h3, hfr3, hps3, hx3, hy3⟩
              exact ⟨_, _, hrun, _, rfl, m2, F2, .bool _, z1, (((q3.trans t2).trans s3).trans z2)⟩
            cases e with
            | norm =>
              simp only [Res.val.injEq] at h
              exact fin 0 none (run_endRound none hr3) (by decide) rfl rfl h.1.symm h.2.symm
            | ret =>
              simp only [Res.val.injEq] at h
              exact fin 2 (some .ret) (run_endRound (some .ret) hr3) (by decide) rfl rfl h.1.symm h.2.symm
            | exit i =>
              simp only [Res.val.injEq] at h
              exact fin 2 (some (.exit i)) (run_endRound (some (.exit i)) hr3) (by decide) rfl rfl h.1.symm h.2.symm
          · cases h
        · cases h
      · cases h
    · cases h
  · cases h
end Go.EV

/- Calls: entering and leaving. -/
namespace Go.EV
open Go.RowKit
variable {P : Program} {Fb : Fz}

theorem fillN_get {α : Type} {v u : α} : ∀ (d n : Nat) (p : Pth), (Tr.fillN v d n).get p = some u → u = v ∧ p.n < n
  | 0, n, p, h => by rw [Tr.fillN, Tr.get_leaf] at h; cases h
  | d + 1, 0, p, h => by rw [Tr.fillN, Tr.get_leaf] at h; cases h
  | d + 1, n + 1, p, h => by
    rw [Tr.fillN] at h
    cases p with
    | h => simp only [Tr.get, Option.some.injEq] at h; exact ⟨h.symm, by simp [Pth.n]⟩
    | l p => obtain ⟨h1, h2⟩ := fillN_get d _ p h; exact ⟨h1, by simp only [Pth.n]; omega⟩
    | r p => obtain ⟨h1, h2⟩ := fillN_get d _ p h; exact ⟨h1, by simp only [Pth.n]; omega⟩

/-! ## Leaving -/
def resOf (tmps : Array Value) : ResultVar → Sem Value
  | .tmp t => pure (tmps.getD t undef)
  | .cell a t => do loadVar t (← asAddr (tmps.getD a undef))
theorem res1_rel {m : Mp} {F : Fz} {H : Hp} {w : World} {f : Fr} {tmps : Array Value} (hf : FRel m F f tmps) (hw : WR P Fb m F H w) {r : ResultVar} {c : CR} {v : AV} (hc : compR P r = some c) (h : evRes1 f H c = some v) :
    ∃ u, (resOf tmps r).run P w = .ok u w ∧ VR m F v u := by
  cases r with
  | tmp t =>
    obtain ⟨p, hp, rfl⟩ := map_some hc
    obtain ⟨u, h1, h2⟩ := hf p v h
    rw [toPth_n hp] at h1
    exact ⟨u, by simp [resOf, Array.getD_eq_getD_getElem?, h1], h2⟩
  | cell a t =>
    simp only [compR] at hc
    split at hc
    · rename_i p n ag hp hl
      cases hc
      simp only [evRes1] at h
      split at h
      · rename_i x hx
        obtain ⟨u, h1, h2⟩ := hf p x hx
        rw [toPth_n hp] at h1
        have hu : tmps.getD a undef = u := by simp [Array.getD_eq_getD_getElem?, h1]
        simp only [resOf, hu]
        have fin : ∀ {cs : List AV} {c d off : Nat}, Cells m F w cs c d → ldc cs off n ag = some v → u = .pointer (some ⟨c, d + off, none⟩) → ∃ z, (do loadVar t (← asAddr u) : Sem Value).run P w = .ok z w ∧ VR m F v z := by
          intro cs c d off hcl hld e
          obtain ⟨z, hr, hv⟩ := load_rel (P := P) hcl hld hl
          exact ⟨z, by rw [e]; simp [asAddr, hr], hv⟩
        cases h2 with
        | ptr b off p' hm =>
          unfold evLoad at h
          simp only at h
          split at h
          · rename_i st ty cs hb; exact fin (ptr_cells hw hm hb) h rfl
          · cases h
        | cptr cs off c d g hq k1 k2 => exact fin (cptr_cells hw k1 k2) h rfl
        | _ => cases h
      · cases h
    · cases hc
theorem resL_rel {m : Mp} {F : Fz} {H : Hp} {w : World} {f : Fr} {tmps : Array Value} (hf : FRel m F f tmps) (hw : WR P Fb m F H w) : ∀ (rs : List ResultVar) (cs : List CR) (vs : List AV), compRs P rs = some cs → optL (evRes1 f H) cs = some vs →
    ∃ us : List Value, (rs.mapM (resOf tmps)).run P w = .ok us w ∧ us.length = vs.length ∧ ∀ (i : Nat) (v : AV) (u : Value), vs[i]? = some v → us[i]? = some u → VR m F v u
  | [], cs, vs, h1, h2 => by
    cases h1; cases h2
    exact ⟨[], rfl, rfl, fun i v u e => by simp at e⟩
  | r :: rs, cs, vs, h1, h2 => by
    unfold compRs at h1
    split at h1
    · rename_i c hc
      obtain ⟨cs', h3, rfl⟩ := map_some h1
      unfold optL at h2
      split at h2
      · rename_i v hv
        obtain ⟨vs', h4, rfl⟩ := map_some h2
        obtain ⟨u, q1, q2⟩ := res1_rel hf hw hc hv
        obtain ⟨us, r1, r2, r3⟩ := resL_rel hf hw rs cs' vs' h3 h4
        refine ⟨u :: us, ?_, by simp [r2], fun i a b e1 e2 => ?_⟩
        · rw [List.mapM_cons]
          simp only [Sem.run_bind, q1, Result.andThen, r1]
          rfl
        · cases i with
          | zero => simp at e1 e2; subst e1; subst e2; exact q2
          | succ i => exact r3 i a b (by simpa using e1) (by simpa using e2)
      · cases h2
    · cases h1
theorem results_rel {m : Mp} {F : Fz} {H : Hp} {w : World} {f : Fr} {tmps : Array Value} (hf : FRel m F f tmps) (hw : WR P Fb m F H w) {fn : Func} {rs : List CR} {v : AV} (hc : compRs P fn.results.toList = some rs) (h : evRes f H rs = some v) : ∃ u, (results fn tmps).run P w = .ok u w ∧ VR m F v u := by
  unfold evRes at h
  obtain ⟨vs, h1, h2⟩ := map_some h
  obtain ⟨us, r1, r2, r3⟩ := resL_rel hf hw _ _ _ hc h1
  have hrun : (results fn tmps).run P w = .ok (if h : us.toArray.size = 1 then us.toArray[0] else .tuple us.toArray) w := by
    show (do let vs ← fn.results.mapM (resOf tmps); pure (if h : vs.size = 1 then vs[0] else .tuple vs) : Sem Value).run P w = _
    rw [Array.mapM_eq_mapM_toList]
    simp [r1, Result.andThen]
  refine ⟨_, hrun, ?_⟩
  clear hrun r1 h1
  match vs, us, r2, r3, h2 with
  | [x], [u], _, r3, h2 => subst h2; exact r3 0 x u rfl rfl
  | [], [], _, _, h2 => subst h2; exact .tup [] #[] rfl (fun i v v' e => by simp at e)
  | x :: y :: vs, u :: z :: us, r2, r3, h2 =>
    subst h2
    exact .tup _ _ (by simpa using r2.symm) (fun i a b e1 e2 => r3 i a b e1 (by simpa using e2))

theorem WR.poke {m : Mp} {F : Fz} {H : Hp} {w : World} {D : Nat} (hj : Jk m F H w D) (hw : WR P Fb m F H w) (o : Obj) : WR P Fb m F H (w.putObj D o) := by
  refine ⟨hw.bs, fun c x h => (putObj_ne w D o (fun e => by subst e; rw [hj.fz] at h; cases h)).trans (hw.fz c x h), fun b p h => ?_, hw.inj, hw.fre⟩
  obtain ⟨k, hk, hb⟩ := hw.blk b p h
  exact ⟨k, hk, BR.mono (MpLe.refl _) (FzLe.refl _) (fun hm => putObj_ne w D o (hj.mp b p h ⟨k, hk, hm⟩)) hb⟩
theorem Gs.poke {m0 m : Mp} {F0 F : Fz} {H0 H : Hp} {w0 w : World} {D : Nat} (g : Gs m0 F0 H0 w0 m F H w) (hD : w0.heap.size ≤ D) (o : Obj) : Gs m0 F0 H0 w0 m F H (w.putObj D o) :=
  ⟨g.ml, g.fl, g.nw, g.nf, g.mu, fun c hc hn => (putObj_ne w D o (by omega)).trans (g.fr c hc hn), by simpa [World.putObj] using g.sz, g.os, g.tape, g.out, g.hl, g.nm, fun c r h => by
    obtain ⟨r', h1, h2⟩ := g.lp c r h
    exact ⟨r', (putObj_ne w D o (by have := (Array.getElem?_eq_some_iff.1 h).1; omega)).trans h1, h2⟩⟩
theorem Jk.other {m : Mp} {F : Fz} {H : Hp} {w : World} {D D' : Nat} (h : Jk m F H w D) (hne : D ≠ D') (o : Obj) : Jk m F H (w.putObj D' o) D := ⟨(putObj_ne w D' o hne).trans h.at_, h.fz, h.mp⟩

theorem leave {B : Fence} {m0 m : Mp} {F0 F : Fz} {H0 H : Hp} {w0 : World} {fn : Func} {tmps : Array Value} {R : Ending → World → Prop} (k : ∀ w', WR P Fb m F H w' → Gs m0 F0 H0 w0 m F H w' → ∃ u, (results fn tmps).run P w' = .ok u w' ∧ R (.returned u) w') :
    ∀ (ds : List Nat) (w : World), ds.Nodup → (∀ D ∈ ds, w0.heap.size ≤ D ∧ Jk m F H w D) → WR P Fb m F H w → Gs m0 F0 H0 w0 m F H w → LeavesInM (fen B none) 0 P fn tmps R (ds.map mark) .returning w
  | [], w, _, _, hw, hg => k w hw hg
  | D :: ds, w, hn, hd, hw, hg => by
    have hD := hd D (List.mem_cons_self ..)
    have hnd := List.nodup_cons.1 hn
    refine ⟨by simp, .inl ⟨D, _, rfl, run_takeDeferred hD.2.at_, ?_⟩⟩
    exact leave k ds _ hnd.2 (fun D' h' => ⟨(hd D' (List.mem_cons_of_mem _ h')).1, (hd D' (List.mem_cons_of_mem _ h')).2.other (fun e => hnd.1 (by rw [← e]; exact h')) _⟩) (hw.poke hD.2 _) (hg.poke hD.1 _)
end Go.EV

/- Calls: a function entered. -/
namespace Go.EV
open Go.RowKit
variable {P : Program} {Fb : Fz}

theorem foldl_range (us : List Value) : ∀ (s : Nat) (t : Array Value), s + us.length ≤ t.size → ∀ i, (((List.range' s us.length).zip us).foldl (fun t (p, v) => t.setIfInBounds p v) t)[i]? = if s ≤ i ∧ i < s + us.length then us[i - s]? else t[i]? := by
  induction us with
  | nil => intro s t _ i; simp; intro h1 h2; omega
  | cons u us ih =>
    intro s t h i
    simp only [List.length_cons] at h ⊢
    rw [List.range'_succ, List.zip_cons_cons, List.foldl_cons, ih (s + 1) _ (by simp; omega)]
    by_cases h1 : i = s
    · subst h1
      rw [if_neg (by omega), if_pos (by omega), Array.getElem?_setIfInBounds_self]
      simp; omega
    · by_cases h2 : s + 1 ≤ i ∧ i < s + 1 + us.length
      · rw [if_pos h2, if_pos (by omega), show i - s = (i - (s + 1)) + 1 by omega, List.getElem?_cons_succ]
      · rw [if_neg h2, if_neg (by omega), Array.getElem?_setIfInBounds_ne (fun e => h1 e.symm)]

/-- The frame at a function's start. -/
theorem start_rel {m : Mp} {F : Fz} {fn : Func} {Fc : CF} {mode : Nat} (hc : compF P mode fn = some Fc) {vals : List AV} {us : Array Value} (hv : VRL m F vals us) {f : Fr} (hs : setAll Fc.params vals (Tr.fillN (.tup []) Fc.depth Fc.np) = some f) :
    FRel m F f (us ++ Array.replicate (fn.ntmps - us.size) undef) ∧ ∃ c, fn.body = some c ∧ compC P c = some Fc.body ∧ compRs P fn.results.toList = some Fc.results := by
  unfold compF at hc
  split at hc
  · cases hc
  · rename_i c hb
    split at hc
    · rename_i cc rs ps h1 h2 h3
      split at hc
      · rename_i hle
        cases hc
        refine ⟨?_, c, hb, h1, h2⟩
        have h0 : FRel m F (Tr.fillN (.tup []) (depthFor fn.ntmps) fn.ntmps) (Array.replicate fn.ntmps undef) := by
          intro p v e
          obtain ⟨rfl, hn⟩ := fillN_get _ _ p e
          exact ⟨undef, by rw [Array.getElem?_replicate, if_pos hn], .tup [] #[] rfl (fun i v v' e => by simp at e)⟩
        obtain ⟨r1, r2⟩ := setAll_rel ps vals _ us.toList _ f _ h3 hs (by simpa using hv.1.symm) (fun i a b e1 e2 => hv.2 i a b e1 (by simpa using e2)) h0
        have hlen : us.size = fn.params.size + fn.nfree := by simpa using r2
        intro p v e
        obtain ⟨v', q1, q2⟩ := r1 p v e
        refine ⟨v', ?_, q2⟩
        rw [List.range_eq_range', show fn.params.size + fn.nfree = us.toList.length by simpa using hlen.symm, foldl_range us.toList 0 _ (by simp; omega)] at q1
        by_cases hp : p.n < us.size
        · rw [if_pos ⟨Nat.zero_le _, by simpa using hp⟩] at q1
          rw [Array.getElem?_append_left hp]
          simpa using q1
        · rw [if_neg (by simpa using hp)] at q1
          rw [Array.getElem?_append_right (by omega)]
          rw [Array.getElem?_replicate] at q1 ⊢
          split at q1
          · rw [if_pos (by omega)]; exact q1
          · cases q1
      · cases hc
    · cases hc

theorem invoke_fn {k : Nat} {fn : Func} {c : Code} (hf : P.funcs[k]? = some fn) (hn : (fn.name == "runtime.NumGoroutine") = false) (hb : fn.body = some c) (vs argv : Array Value) (w : World) :
    (Deferred.ofValue (.func (.func k) #[] vs) argv).run P w = .ok { target := .fn (.func k) vs, args := argv } w ∧ (invoke (.fn (.func k) vs) argv).run P w = .ok (.enter k (argv ++ vs)) w := by
  refine ⟨by simp [Deferred.ofValue], ?_⟩
  simp [invoke, callFunc, hf, hb, Sem.run_bind, Result.andThen]
  simpa using hn

/-- A body walked is a call answered. -/
theorem body_call {B : Fence} (hB : Open B) {E : Env} {n : Nat} (ih : CodeS B P Fb (ev E n)) {k : Nat} {fn : Func} {Fc : CF} {mode : Nat} (hf : P.funcs[k]? = some fn) (hc : compF P mode fn = some Fc) {m : Mp} {F : Fz} {H : Hp} {w : World} (hw : WR P Fb m F H w) {vals : List AV} {us : Array Value} (hv : VRL m F vals us) {f : Fr}
    (hs : setAll Fc.params vals (Tr.fillN (.tup []) Fc.depth Fc.np) = some f) {e : Ex} {f' : Fr} {H' : Hp} (h : ev E n (.code Fc.body f H) = .ok e f' H') {v : AV} (hr : evRes f' H' Fc.results = some v) (hx : ∀ i, e ≠ .exit i) {R : Ending → World → Prop}
    (kR : ∀ m' F' u w', VR m' F' v u → WR P Fb m' F' H' w' → Gs m F H w m' F' H' w' → R (.returned u) w') : CallsIn (fen B none) 0 P k us w R := by
  obtain ⟨hfr, c, hb, h1, h2⟩ := start_rel hc hv hs
  refine callsIn_of_wp_marks hf hb (hB.fn _) ?_
  refine ih Fc.body f H e f' H' h c h1 m F _ w none _ hfr hw (fun l e => by cases e) fun m' F' a' w' q1 q2 q3 q4 _ => ?_
  obtain ⟨ds, d1, d2, d3⟩ := q4
  have hl : LeavesInM (fen B none) 0 P fn a'.tmps R a'.defers .returning w' := by
    rw [d1, List.append_nil]
    exact leave (fun w2 g1 g2 => by
      obtain ⟨u, r1, r2⟩ := results_rel q1 g1 h2 hr
      exact ⟨u, r1, kR m' F' u w2 r2 g1 g2⟩) ds w' d2 d3 q2 q3
  cases e with
  | norm => exact hl
  | ret => exact hl
  | exit i => exact absurd rfl (hx i)
end Go.EV

/- Freezing. -/
namespace Go.EV
open Go.RowKit
variable {P : Program} {Fb : Fz}

theorem hfL_mem : ∀ {l : List AV}, hfL l = true → ∀ v ∈ l, hf v = true
  | [], _, v, h => by cases h
  | a :: r, h, v, hv => by
    simp only [hfL, Bool.and_eq_true] at h
    rcases List.mem_cons.1 hv with rfl | hv
    · exact h.1
    · exact hfL_mem h.2 v hv
theorem hfL_of : ∀ {l : List AV}, (∀ v ∈ l, hf v = true) → hfL l = true
  | [], _ => rfl
  | a :: r, h => by
    simp only [hfL, Bool.and_eq_true]
    exact ⟨h a (List.mem_cons_self ..), hfL_of fun v hv => h v (List.mem_cons_of_mem _ hv)⟩
/-- What leads to no block is told without a map. -/
theorem VR.hf_any {m m2 : Mp} {F F' : Fz} (hF : FzLe F F') {v : AV} {u : Value} (h : VR m F v u) : hf v = true → VR m2 F' v u := by
  induction h with
  | und v => intro _; exact .und v
  | err t v => intro _; exact .err t v
  | bool b => intro _; exact .bool b
  | int k n => intro _; exact .int k n
  | str s b h => intro _; exact .str s b h
  | nilp => intro _; exact .nilp
  | ptr b o p h => intro e; cases e
  | cptr cs o c d g hq h1 h2 ih => intro _; exact .cptr cs o c d g hq (fun i v e => fcell_mono hF (h1 i v e)) (fun i v e => ih i v e (hfL_mem hq v (List.mem_of_getElem? e)))
  | nils => intro _; exact .nils
  | emp a => intro _; exact .emp a
  | lst es l a cap g hq hs he hc h1 h2 ih => intro _; exact .lst es l a cap g hq hs he hc (fun i c j v e k => fcell_mono hF (h1 i c j v e k)) (fun i c j v e k => ih i c j v e k (hfL_mem (hq c (List.mem_of_getElem? e)) v (List.mem_of_getElem? k)))
  | nlst => intro _; exact .nlst
  | sl es b o len p a cap h hl ha => intro e; cases e
  | nilm => intro _; exact .nilm
  | map b p h => intro e; cases e
  | nilf => intro _; exact .nilf
  | fn f caps vs hn h ih => intro e; exact .fn f caps vs hn (fun i v v' e1 e2 => ih i v v' e1 e2 (hfL_mem (by simpa [hf] using e) v (List.mem_of_getElem? e1)))
  | yld b p h => intro e; cases e
  | nili => intro _; exact .nili
  | iface t v v' h ih => intro e; exact .iface t v v' (ih (by simpa [hf] using e))
  | agg cs vs hn h ih => intro e; exact .agg cs vs hn (fun i v v' e1 e2 => ih i v v' e1 e2 (hfL_mem (by simpa [hf] using e) v (List.mem_of_getElem? e1)))
  | tup cs vs hn h ih => intro e; exact .tup cs vs hn (fun i v v' e1 e2 => ih i v v' e1 e2 (hfL_mem (by simpa [hf] using e) v (List.mem_of_getElem? e1)))

theorem optL_spec {α β : Type} {g : α → Option β} : ∀ (l : List α) (r : List β), optL g l = some r → r.length = l.length ∧ ∀ (x : Nat) (b : β), r[x]? = some b → ∃ a, l[x]? = some a ∧ g a = some b
  | [], r, h => by cases h; exact ⟨rfl, fun x b e => by simp at e⟩
  | a :: l, r, h => by
    unfold optL at h
    split at h
    · rename_i b hb
      obtain ⟨r', hr, rfl⟩ := map_some h
      obtain ⟨h1, h2⟩ := optL_spec l r' hr
      refine ⟨by simp [h1], fun x b' e => ?_⟩
      cases x with
      | zero => simp at e; subst e; exact ⟨a, rfl, hb⟩
      | succ x => exact h2 x b' (by simpa using e)
    · cases h

theorem frz_hf {q : Bool} {H : Hp} {base : Nat} : ∀ (n : Nat) (v v' : AV), frz q H base n v = some v' → hf v' = true := by
  intro n
  induction n with
  | zero => intro v v' h; cases v <;> cases h
  | succ n ih =>
    intro v v' h
    have many : ∀ (l r : List AV), optL (frz q H base n) l = some r → hfL r = true := by
      intro l r hr
      refine hfL_of fun x hx => ?_
      obtain ⟨i, hi, rfl⟩ := List.getElem_of_mem hx
      obtain ⟨a, _, ha⟩ := (optL_spec l r hr).2 i _ (List.getElem?_eq_getElem hi)
      exact ih a _ ha
    cases v <;> simp only [frz] at h <;> first
      | (split at h <;> first | (cases h; assumption; done) | (cases h; done))
      | (cases h; rfl; done)
      | (cases h; cases q <;> rfl; done)
      | skip
    · split at h
      · split at h
        · split at h
          · obtain ⟨r, _, rfl⟩ := map_some h; rfl
          · cases h
        · cases h
      · cases h
    · obtain ⟨r, hr, rfl⟩ := map_some h; simpa [hf] using many _ r hr
    · obtain ⟨r, hr, rfl⟩ := map_some h; simpa [hf] using many _ r hr
end Go.EV

/- Freezing: what is frozen is told by what it holds. -/
namespace Go.EV
open Go.RowKit
variable {P : Program} {Fb : Fz}

open Classical in
/-- The machine's blocks behind some blocks of cells, held fast. -/
noncomputable def frF (m : Mp) (H : Hp) (w : World) (F : Fz) (S : Nat → Prop) : Fz := fun c => match F c with
  | some o => some o
  | none => if ∃ b p st ty cs, S b ∧ m b = some p ∧ p.c = c ∧ H[b]? = some (.cells st ty cs) then w.heap[c]? else none
theorem frF_le (m : Mp) (H : Hp) (w : World) (F : Fz) (S : Nat → Prop) : FzLe F (frF m H w F S) := fun c o h => by unfold frF; rw [h]
theorem frF_at {m : Mp} {F : Fz} {H : Hp} {w : World} (hw : WR P Fb m F H w) {S : Nat → Prop} {b : Nat} {p : Pl} {st ty : Nat} {cs : List AV} (hS : S b) (hm : m b = some p) (hb : H[b]? = some (.cells st ty cs)) : frF m H w F S p.c = w.heap[p.c]? := by
  unfold frF
  cases hF : F p.c with
  | some o => exact (hw.fz _ _ hF).symm
  | none => exact if_pos ⟨b, p, st, ty, cs, hS, hm, rfl, hb⟩

theorem chunks_get {es : Nat} {cs : List AV} : ∀ (n o i : Nat), i < n → (chunks es cs o n)[i]? = some ((cs.drop (o + i * es)).take es)
  | 0, _, _, h => by omega
  | n + 1, o, 0, _ => by simp [chunks]
  | n + 1, o, i + 1, h => by
    rw [chunks, List.getElem?_cons_succ, chunks_get n (o + es) i (by omega), Nat.add_mul, Nat.one_mul, show o + es + i * es = o + (i * es + es) by omega]
theorem fcell_cell {F : Fz} {w : World} {c : Nat} (h : F c = w.heap[c]?) (k : Nat) : fcell F c k = w.cell? ⟨c, k, none⟩ := by
  unfold fcell World.cell?
  rw [h]
  cases hw : w.heap[c]? with
  | none => simp
  | some o => cases o <;> simp
theorem frz_VR {q : Bool} {m : Mp} {F : Fz} {H : Hp} {w : World} (hw : WR P Fb m F H w) {S : Nat → Prop} {base : Nat} : ∀ (n : Nat) (v v' : AV) (u : Value), frz q H base n v = some v' → (∀ b ∈ frzB H n v, S b) → VR m F v u → ∀ m2, VR m2 (frF m H w F S) v' u := by
  intro n
  induction n with
  | zero => intro v v' u h; cases v <;> cases h
  | succ n ih =>
    intro v v' u h hS hv m2
    have plain : (if hf v then some v else none) = some v' → VR m2 (frF m H w F S) v' u := by
      intro h
      split at h
      · rename_i e; cases h; exact hv.hf_any (frF_le m H w F S) e
      · cases h
    have many : ∀ (l r : List AV) (us : Array Value), optL (frz q H base n) l = some r → (∀ b ∈ l.flatMap (frzB H n), S b) → VRL m F l us → VRL m2 (frF m H w F S) r us := by
      intro l r us hr hb hl
      obtain ⟨h1, h2⟩ := optL_spec l r hr
      refine ⟨h1.trans hl.1, fun i a b e1 e2 => ?_⟩
      obtain ⟨x, hx, hf⟩ := h2 i a e1
      exact ih x a b hf (fun c hc => hb c (List.mem_flatMap.2 ⟨x, List.mem_of_getElem? hx, hc⟩)) (hl.2 i x b hx e2) m2
    cases v with
    | sl es b o len =>
      simp only [frz] at h
      split at h
      · split at h
        · rename_i st ty cs hb
          split at h
          · rename_i hle
            obtain ⟨r, hr, rfl⟩ := map_some h
            cases hv with
            | sl _ _ _ _ p a cap hm hl ha =>
            simp only [frzB, hb] at hS
            have hSb : S b := hS b (List.mem_cons_self ..)
            have hfat := frF_at hw hSb hm hb
            obtain ⟨h1, h2⟩ := optL_spec _ r hr
            rw [chunks_length] at h1
            have hc := ptr_cells hw hm hb
            have ha' : r ≠ [] → a = ⟨p.c, p.d + o, none⟩ := fun hne => (ha (fun e => by
              have : len = 0 := by omega
              subst this
              exact hne (List.eq_nil_of_length_eq_zero h1))).1
            have helem : ∀ (i : Nat) (c : List AV), r[i]? = some c → ∃ c0, (chunks es cs o len)[i]? = some c0 ∧ optL (frz q H base n) c0 = some c := h2
            have hlen : r.length = len := h1
            have hcell : ∀ (i : Nat) (c : List AV) (j : Nat) (x : AV), r[i]? = some c → c[j]? = some x → ∃ x0 y, frz q H base n x0 = some x ∧ w.cell? ⟨p.c, p.d + o + (i * es + j), none⟩ = some y ∧ VR m F x0 y ∧ (∀ b ∈ frzB H n x0, S b) := by
              intro i c j x e1 e2
              obtain ⟨c0, q1, q2⟩ := helem i c e1
              obtain ⟨x0, q3, q4⟩ := (optL_spec c0 c q2).2 j x e2
              have hi : i < len := by rw [← hlen]; exact (List.getElem?_eq_some_iff.1 e1).1
              rw [chunks_get len o i hi] at q1
              cases q1
              have hj : j < es := by
                have := (List.getElem?_eq_some_iff.1 q3).1
                simp at this; omega
              have hmem : x0 ∈ (chunks es cs o len).flatten := List.mem_flatten.2 ⟨_, List.mem_of_getElem? (chunks_get len o i hi), List.mem_of_getElem? q3⟩
              rw [List.getElem?_take_of_lt hj, List.getElem?_drop] at q3
              obtain ⟨y, y1, y2⟩ := hc (o + i * es + j) x0 q3
              exact ⟨x0, y, q4, by rw [show p.d + o + (i * es + j) = p.d + (o + i * es + j) by omega]; exact y1, y2, fun b hb => hS b (List.mem_cons_of_mem _ (List.mem_flatMap.2 ⟨x0, hmem, hb⟩))⟩
            have := VR.lst (m := m2) (F := frF m H w F S) es r a cap (fun i j => (w.cell? ⟨p.c, p.d + o + (i * es + j), none⟩).getD undef) (fun c hcm => by
                obtain ⟨i, hi, rfl⟩ := List.getElem_of_mem hcm
                refine hfL_of fun x hx => ?_
                obtain ⟨j, hj, rfl⟩ := List.getElem_of_mem hx
                obtain ⟨x0, y, q1, _⟩ := hcell i _ j _ (List.getElem?_eq_getElem hi) (List.getElem?_eq_getElem hj)
                exact frz_hf n x0 _ q1) (fun hne => by rw [ha' hne]) (fun c hcm => by
                obtain ⟨i, hi, rfl⟩ := List.getElem_of_mem hcm
                obtain ⟨c0, q1, q2⟩ := helem i _ (List.getElem?_eq_getElem hi)
                rw [(optL_spec c0 _ q2).1]
                exact chunks_each len o hle c0 (List.mem_of_getElem? q1)) (by omega)
              (fun i c j x e1 e2 => by
                obtain ⟨x0, y, _, q2, _⟩ := hcell i c j x e1 e2
                have hne : r ≠ [] := fun e => by rw [e] at e1; simp at e1
                rw [ha' hne]
                show fcell _ p.c (p.d + o + (i * es + j)) = _
                rw [fcell_cell hfat, q2]; rfl)
              (fun i c j x e1 e2 => by
                obtain ⟨x0, y, q1, q2, q3, q4⟩ := hcell i c j x e1 e2
                rw [q2]
                exact ih x0 x y q1 q4 q3 m2)
            rw [hlen] at this
            exact this
          · cases h
        · cases h
      · cases h
    | nils =>
      simp only [frz] at h
      cases h
      cases hv
      cases q
      · exact .nlst
      · exact .nils
    | emp =>
      simp only [frz] at h
      cases h
      cases hv
      exact VR.lst0 _ _
    | agg cs =>
      simp only [frz] at h
      obtain ⟨r, hr, rfl⟩ := map_some h
      cases hv with
      | agg _ us hn hh =>
        have := many cs r us hr (by simpa [frzB] using hS) ⟨hn, hh⟩
        exact .agg r us this.1 this.2
    | tup cs =>
      simp only [frz] at h
      obtain ⟨r, hr, rfl⟩ := map_some h
      cases hv with
      | tup _ us hn hh =>
        have := many cs r us hr (by simpa [frzB] using hS) ⟨hn, hh⟩
        exact .tup r us this.1 this.2
    | _ => exact plain (by simpa only [frz] using h)
end Go.EV

/- Calls on frozen arguments. -/
namespace Go.EV
open Go.RowKit
variable {P : Program} {Fb : Fz}

def roB : Blk → Blk
  | .cells _ ty cs => .cells 0 ty cs
  | k => k
theorem markRo_get (H : Hp) (b x : Nat) : (markRo H b)[x]? = if x = b then (H[x]?).map roB else H[x]? := by
  unfold markRo
  by_cases h : x = b
  · subst h
    rw [if_pos rfl]
    cases hx : H[x]? with
    | none => simp [hx]
    | some k =>
      cases k with
      | cells st ty cs => simp [roB, (List.getElem?_eq_some_iff.1 hx).1]
      | _ => simp only; rw [hx]; rfl
  · rw [if_neg h]
    split
    · rw [List.getElem?_set_ne (fun e => h e.symm)]
    · rfl
theorem roB_idem (k : Blk) : roB (roB k) = roB k := by cases k <;> rfl
theorem markAll_get : ∀ (bs : List Nat) (H : Hp) (x : Nat), (bs.foldl markRo H)[x]? = if x ∈ bs then (H[x]?).map roB else H[x]?
  | [], H, x => by simp
  | b :: r, H, x => by
    rw [List.foldl_cons, markAll_get r, markRo_get]
    by_cases h1 : x = b
    · subst h1
      simp only [if_pos, List.mem_cons, true_or]
      split
      · cases H[x]? <;> simp [roB_idem]
      · rfl
    · simp [h1]
theorem markAll_len : ∀ (bs : List Nat) (H : Hp), (bs.foldl markRo H).length = H.length
  | [], H => rfl
  | b :: r, H => by
    rw [List.foldl_cons, markAll_len r]
    unfold markRo
    split <;> simp

/-- The arguments' blocks are held fast. -/
theorem WR.hold {m : Mp} {F : Fz} {H : Hp} {w : World} (hw : WR P Fb m F H w) (bs : List Nat) : WR P Fb m (frF m H w F (· ∈ bs)) (bs.foldl markRo H) w ∧ Gs m F H w m (frF m H w F (· ∈ bs)) (bs.foldl markRo H) w := by
  have hle := frF_le m H w F (· ∈ bs)
  have hmu : ∀ b, mutAt (bs.foldl markRo H) b → mutAt H b := by
    rintro b ⟨k, hk, hm⟩
    rw [markAll_get] at hk
    split at hk
    · obtain ⟨k0, h1, rfl⟩ := map_some hk
      refine ⟨k0, h1, ?_⟩
      cases k0 with
      | cells st ty cs => exact absurd rfl hm
      | _ => exact hm
    · exact ⟨k, hk, hm⟩
  refine ⟨⟨hw.bs.trans hle, fun c o h => ?_, fun b p h => ?_, fun b b' p p' h1 h2 m1 m2 e => hw.inj b b' p p' h1 h2 (hmu _ m1) (hmu _ m2) e, fun b p h hm => ?_⟩,
    ⟨MpLe.refl _, hle, fun b p h k => (by rw [h] at k; cases k), fun c o h k => ?_, fun b p _ hm => hmu b hm, fun _ _ _ => rfl, Nat.le_refl _, rfl, rfl, rfl, by rw [markAll_len]; exact Nat.le_refl _, fun b p hn hp => (by rw [hp] at hn; cases hn), fun c r h => ⟨r, h, SameL.refl r⟩⟩⟩
  · unfold frF at h
    split at h
    · rename_i o' e; cases h; exact hw.fz c _ e
    · split at h
      · exact h
      · cases h
  · obtain ⟨k, hk, hb⟩ := hw.blk b p h
    rw [markAll_get]
    by_cases hin : b ∈ bs
    · rw [if_pos hin, hk]
      refine ⟨roB k, rfl, ?_⟩
      cases k with
      | cells st ty cs =>
        have hat := frF_at hw (S := (· ∈ bs)) hin h hk
        obtain ⟨h1, arr, lo, hi, h2, h3, h4, h5, h6, _, _, h9⟩ := hb
        have hh : w.heap[p.c]? = some (.cells arr ty (lo, hi)) := by
          by_cases e0 : st = 0
          · exact hw.fz _ _ (h2 e0)
          · exact h3 e0
        refine ⟨h1, arr, lo, hi, fun _ => hat.trans hh, fun e => absurd rfl e, h4, h5, fun i v e => ?_, fun e => (by cases e), fun e => absurd rfl e, h9⟩
        obtain ⟨v', a, b'⟩ := h6 i v e
        exact ⟨v', a, b'.mono (MpLe.refl _) hle⟩
      | dead => trivial
      | map es => exact BR.mono (MpLe.refl _) hle (fun _ => rfl) hb
      | loop st pe f ps x y => exact BR.mono (MpLe.refl _) hle (fun _ => rfl) hb
    · rw [if_neg hin]
      exact ⟨k, hk, BR.mono (MpLe.refl _) hle (fun _ => rfl) hb⟩
  · have hF := hw.fre b p h (hmu b hm)
    unfold frF
    rw [hF]
    refine if_neg ?_
    rintro ⟨b', p', st, ty, cs, hS, hm', hc, hb'⟩
    by_cases e0 : st = 0
    · subst e0
      obtain ⟨k, hk, hbr⟩ := hw.blk b' p' hm'
      rw [hb'] at hk; cases hk
      obtain ⟨_, arr, lo, hi, h2, _⟩ := hbr
      have := h2 rfl
      rw [hc, hF] at this; cases this
    · have : b' = b := hw.inj b' b p' p hm' h ⟨_, hb', e0⟩ (hmu b hm) hc
      subst this
      obtain ⟨k, hk, hmk⟩ := hm
      rw [markAll_get, if_pos hS, hb'] at hk
      cases hk
      exact hmk rfl
  · unfold frF at h
    rw [k] at h
    simp only at h
    split at h
    · rename_i hex
      obtain ⟨b, p, st, ty, cs, _, hm, hc, hb⟩ := hex
      refine .inr ⟨b, p, hm, hc, _, hb, ?_⟩
      rintro rfl
      obtain ⟨k', hk, hbr⟩ := hw.blk b p hm
      rw [hb] at hk; cases hk
      obtain ⟨_, arr, lo, hi, h2, _⟩ := hbr
      have := h2 rfl
      rw [hc, k] at this; cases this
    · cases h
end Go.EV

/- A call in a heap of its own. -/
namespace Go.EV
open Go.RowKit
variable {P : Program} {Fb : Fz}

def noM : Mp := fun _ => none
theorem WR.none {m : Mp} {F : Fz} {H : Hp} {w : World} (hw : WR P Fb m F H w) : WR P Fb noM F [] w :=
  ⟨hw.bs, hw.fz, fun b p h => (by cases h), fun b b' p p' h => (by cases h), fun b p h => (by cases h)⟩

/-- Back from a call that worked in a heap of its own. -/
theorem back1 {m m' : Mp} {F F2 : Fz} {H H' : Hp} {w w' : World} (hw : WR P Fb m F H w) (hw' : WR P Fb m' F2 H' w') (g : Gs noM F [] w m' F2 H' w') :
    WR P Fb m (frF m' H' w' F2 fun _ => True) H w' ∧ Gs m F H w m (frF m' H' w' F2 fun _ => True) H w' := by
  have hle : FzLe F (frF m' H' w' F2 fun _ => True) := g.fl.trans (frF_le m' H' w' F2 fun _ => True)
  have hsame : ∀ c, c < w.heap.size → w'.heap[c]? = w.heap[c]? := fun c hc => g.fr c hc fun b p h => (by cases h)
  have hnew : ∀ b p, m' b = some p → w.heap.size ≤ p.c := fun b p h => by
    rcases g.nw b p h rfl with h1 | ⟨b0, p0, h1, _⟩
    · exact h1
    · cases h1
  have hF : ∀ c, c < w.heap.size → F c = .none → frF m' H' w' F2 (fun _ => True) c = .none := by
    intro c hc h
    have h2 : F2 c = .none := by
      cases h3 : F2 c with
      | none => rfl
      | some o =>
        rcases g.nf c o h3 h with h4 | ⟨b, p, h4, _⟩
        · omega
        · cases h4
    unfold frF
    rw [h2]
    refine if_neg ?_
    rintro ⟨b, p, _, _, _, _, hm, hcc, _⟩
    have := hnew b p hm
    omega
  refine ⟨⟨hw.bs.trans hle, fun c o h => ?_, fun b p h => ?_, hw.inj, fun b p h hm => hF _ (hw.mutlt h hm) (hw.fre b p h hm)⟩,
    ⟨MpLe.refl _, hle, fun b p h k => (by rw [h] at k; cases k), fun c o h k => ?_, fun b p _ hm => hm, fun c hc _ => hsame c hc, g.sz, g.os, g.tape, g.out, Nat.le_refl _, fun b p hn hp => (by rw [hp] at hn; cases hn), g.lp⟩⟩
  · unfold frF at h
    split at h
    · rename_i o' e; cases h; exact hw'.fz c _ e
    · split at h
      · exact h
      · cases h
  · obtain ⟨k, hk, hb⟩ := hw.blk b p h
    exact ⟨k, hk, BR.mono (MpLe.refl _) hle (fun hm => hsame _ (hw.mutlt h ⟨k, hk, hm⟩)) hb⟩
  · rcases Nat.lt_or_ge c w.heap.size with h1 | h1
    · rw [hF c h1 k] at h; cases h
    · exact .inl h1
end Go.EV

/- A call in a heap of its own, put together. -/
namespace Go.EV
open Go.RowKit
variable {P : Program} {Fb : Fz}

theorem frzL_VR {q : Bool} {m : Mp} {F : Fz} {H : Hp} {w : World} (hw : WR P Fb m F H w) {S : Nat → Prop} {base n : Nat} {vs vs' : List AV} {us : Array Value} (h : optL (frz q H base n) vs = some vs') (hS : ∀ b ∈ vs.flatMap (frzB H n), S b) (hv : VRL m F vs us) (m2 : Mp) : VRL m2 (frF m H w F S) vs' us := by
  obtain ⟨h1, h2⟩ := optL_spec vs vs' h
  refine ⟨h1.trans hv.1, fun i a b e1 e2 => ?_⟩
  obtain ⟨x, hx, hf⟩ := h2 i a e1
  exact frz_VR hw n x a b hf (fun c hc => hS c (List.mem_flatMap.2 ⟨x, List.mem_of_getElem? hx, hc⟩)) (hv.2 i x b hx e2) m2

theorem call_mode1 {q : Bool} {B : Fence} (hB : Open B) {E : Env} {n : Nat} (ih : CodeS B P Fb (ev E n)) {k : Nat} {fn : Func} {Fc : CF} {mode : Nat} (hf : P.funcs[k]? = some fn) (hc : compF P mode fn = some Fc) {m : Mp} {F : Fz} {H : Hp} {w : World} (hw : WR P Fb m F H w) {vals vals' : List AV} {us : Array Value} (hv : VRL m F vals us)
    {d : Nat} (hz : optL (frz q H 0 d) vals = some vals') {f : Fr} (hs : setAll Fc.params vals' (Tr.fillN (.tup []) Fc.depth Fc.np) = some f) {e : Ex} {f' : Fr} {H' : Hp} (h : ev E n (.code Fc.body f []) = .ok e f' H') {v v' : AV} (hr : evRes f' H' Fc.results = some v) (hx : ∀ i, e ≠ .exit i) (hzr : frz q H' 0 d v = some v') :
    CallsIn (fen B none) 0 P k us w (RetOk P Fb m F H w v' ((vals.flatMap (frzB H d)).foldl markRo H)) := by
  obtain ⟨w1, g1⟩ := hw.hold (vals.flatMap (frzB H d))
  have hv1 := frzL_VR hw (S := (· ∈ vals.flatMap (frzB H d))) hz (fun b hb => hb) hv noM
  refine body_call hB ih hf hc w1.none hv1 hs h hr hx fun m' F' u w' q1 q2 q3 => ?_
  obtain ⟨b1, b2⟩ := back1 w1 q2 q3
  exact ⟨u, rfl, m, _, frz_VR q2 d v v' u hzr (fun _ _ => trivial) q1 m, b1, g1.trans b2⟩
theorem call_mode0 {B : Fence} (hB : Open B) {E : Env} {n : Nat} (ih : CodeS B P Fb (ev E n)) {k : Nat} {fn : Func} {Fc : CF} {mode : Nat} (hf : P.funcs[k]? = some fn) (hc : compF P mode fn = some Fc) {m : Mp} {F : Fz} {H : Hp} {w : World} (hw : WR P Fb m F H w) {vals : List AV} {us : Array Value} (hv : VRL m F vals us)
    {f : Fr} (hs : setAll Fc.params vals (Tr.fillN (.tup []) Fc.depth Fc.np) = some f) {e : Ex} {f' : Fr} {H' : Hp} (h : ev E n (.code Fc.body f H) = .ok e f' H') {v : AV} (hr : evRes f' H' Fc.results = some v) (hx : ∀ i, e ≠ .exit i) :
    CallsIn (fen B none) 0 P k us w (RetOk P Fb m F H w v H') :=
  body_call hB ih hf hc hw hv hs h hr hx fun m' F' u _ q1 q2 q3 => ⟨u, rfl, m', F', q1, q2, q3⟩
end Go.EV

/- Values that lead to low blocks alone. -/
namespace Go.EV
open Go.RowKit
variable {P : Program} {Fb : Fz}

def resM (m : Mp) (n : Nat) : Mp := fun b => if b < n then m b else none
theorem resM_lt {m : Mp} {n b : Nat} (h : b < n) : resM m n b = m b := if_pos h
theorem resM_some {m : Mp} {n b : Nat} {p : Pl} (h : resM m n b = some p) : b < n ∧ m b = some p := by
  unfold resM at h
  split at h
  · exact ⟨‹_›, h⟩
  · cases h
theorem lowL_mem {n : Nat} : ∀ {l : List AV}, lowL n l = true → ∀ v ∈ l, low n v = true
  | [], _, v, h => by cases h
  | a :: r, h, v, hv => by
    simp only [lowL, Bool.and_eq_true] at h
    rcases List.mem_cons.1 hv with rfl | hv
    · exact h.1
    · exact lowL_mem h.2 v hv
theorem VR.low {m : Mp} {F : Fz} {n : Nat} {v : AV} {u : Value} (h : VR m F v u) : low n v = true → VR (resM m n) F v u := by
  have any : ∀ {v : AV} {u : Value}, VR m F v u → hf v = true → VR (resM m n) F v u := fun h e => h.hf_any (FzLe.refl _) e
  induction h with
  | ptr b o p h => intro e; exact .ptr b o p (by rw [resM_lt (of_decide_eq_true e)]; exact h)
  | sl es b o len p a cap h hl ha => intro e; exact .sl es b o len p a cap (by rw [resM_lt (of_decide_eq_true e)]; exact h) hl ha
  | map b p h => intro e; exact .map b p (by rw [resM_lt (of_decide_eq_true e)]; exact h)
  | yld b p h => intro e; exact .yld b p (by rw [resM_lt (of_decide_eq_true e)]; exact h)
  | fn f caps vs hn h ih => intro e; exact .fn f caps vs hn (fun i v v' e1 e2 => ih i v v' e1 e2 (lowL_mem (by simpa [EV.low] using e) v (List.mem_of_getElem? e1)))
  | iface t v v' h ih => intro e; exact .iface t v v' (ih (by simpa [EV.low] using e))
  | agg cs vs hn h ih => intro e; exact .agg cs vs hn (fun i v v' e1 e2 => ih i v v' e1 e2 (lowL_mem (by simpa [EV.low] using e) v (List.mem_of_getElem? e1)))
  | tup cs vs hn h ih => intro e; exact .tup cs vs hn (fun i v v' e1 e2 => ih i v v' e1 e2 (lowL_mem (by simpa [EV.low] using e) v (List.mem_of_getElem? e1)))
  | und v => intro _; exact any (.und v) rfl
  | err t v => intro _; exact any (.err t v) rfl
  | bool b => intro _; exact any (.bool b) rfl
  | int k n => intro _; exact any (.int k n) rfl
  | str s b h => intro _; exact any (.str s b h) rfl
  | nilp => intro _; exact any .nilp rfl
  | cptr cs o c d g hq h1 h2 ih => intro _; exact any (.cptr cs o c d g hq h1 h2) rfl
  | nils => intro _; exact any .nils rfl
  | emp a => intro _; exact any (.emp a) rfl
  | lst es l a cap g hq hs he hc h1 h2 ih => intro _; exact any (.lst es l a cap g hq hs he hc h1 h2) rfl
  | nlst => intro _; exact any .nlst rfl
  | nilm => intro _; exact any .nilm rfl
  | nilf => intro _; exact any .nilf rfl
  | nili => intro _; exact any .nili rfl
end Go.EV

/- A call in the caller's heap, whose results are frozen and whose new blocks are struck. -/
namespace Go.EV
open Go.RowKit
variable {P : Program} {Fb : Fz}

theorem optL_all {α β : Type} {g : α → Option β} : ∀ (l : List α) (r : List β), optL g l = some r → ∀ a ∈ l, ∃ b, g a = some b
  | [], _, _, a, ha => by cases ha
  | x :: l, r, h, a, ha => by
    unfold optL at h
    split at h
    · rename_i b hb
      obtain ⟨r', hr, _⟩ := map_some h
      rcases List.mem_cons.1 ha with rfl | ha
      · exact ⟨b, hb⟩
      · exact optL_all l r' hr a ha
    · cases h
theorem frz_base {q : Bool} {H : Hp} {base : Nat} : ∀ (n : Nat) (v v' : AV), frz q H base n v = some v' → ∀ b ∈ frzB H n v, base ≤ b := by
  intro n
  induction n with
  | zero => intro v v' h; cases v <;> cases h
  | succ n ih =>
    intro v v' h b hb
    have many : ∀ (l r : List AV), optL (frz q H base n) l = some r → b ∈ l.flatMap (frzB H n) → base ≤ b := by
      intro l r hr hb
      obtain ⟨x, hx, hbx⟩ := List.mem_flatMap.1 hb
      obtain ⟨y, hy⟩ := optL_all l r hr x hx
      exact ih x y hy b hbx
    cases v with
    | sl es bb o len =>
      simp only [frz] at h
      split at h
      · rename_i hle
        split at h
        · rename_i st ty cs hbb
          split at h
          · obtain ⟨r, hr, _⟩ := map_some h
            simp only [frzB, hbb] at hb
            rcases List.mem_cons.1 hb with rfl | hb
            · exact hle
            · obtain ⟨x, hx, hbx⟩ := List.mem_flatMap.1 hb
              obtain ⟨c, hc, hxc⟩ := List.mem_flatten.1 hx
              obtain ⟨r', hr'⟩ := optL_all _ _ hr c hc
              obtain ⟨y, hy⟩ := optL_all _ _ hr' x hxc
              exact ih x y hy b hbx
          · cases h
        · cases h
      · cases h
    | agg cs =>
      simp only [frz] at h
      obtain ⟨r, hr, _⟩ := map_some h
      exact many cs r hr (by simpa [frzB] using hb)
    | tup cs =>
      simp only [frz] at h
      obtain ⟨r, hr, _⟩ := map_some h
      exact many cs r hr (by simpa [frzB] using hb)
    | _ => simp [frzB] at hb

theorem lowT_get {n : Nat} : ∀ (p : Pth) (f : Fr) (v : AV), lowT n f = true → f.get p = some v → low n v = true := by
  intro p
  induction p with
  | h => intro f v h e; cases f with
    | leaf => simp [Tr.get] at e
    | node l x r => simp only [Tr.get, Option.some.injEq] at e; subst e; simp only [lowT, Bool.and_eq_true] at h; exact h.2.1
  | l p ih => intro f v h e; cases f with
    | leaf => simp [Tr.get] at e
    | node l x r => simp only [lowT, Bool.and_eq_true] at h; exact ih l v h.1 e
  | r p ih => intro f v h e; cases f with
    | leaf => simp [Tr.get] at e
    | node l x r => simp only [lowT, Bool.and_eq_true] at h; exact ih r v h.2.2 e
theorem FRel.low {m : Mp} {F : Fz} {f : Fr} {t : Array Value} {n : Nat} (h : FRel m F f t) (hl : lowT n f = true) : FRel (resM m n) F f t := fun p v e => by
  obtain ⟨u, h1, h2⟩ := h p v e
  exact ⟨u, h1, h2.low (lowT_get p f v hl e)⟩
theorem BR.low {m : Mp} {F : Fz} {w : World} {k : Blk} {p : Pl} {n : Nat} (h : BR P m F w k p) (hl : blkLow n k = true) : BR P (resM m n) F w k p := by
  cases k with
  | cells st ty cs =>
    obtain ⟨h1, arr, lo, hi, h2, h3, h4, h5, h6, h7, h8, h9⟩ := h
    exact ⟨h1, arr, lo, hi, h2, h3, h4, h5, fun i v e => by
      obtain ⟨v', a, b⟩ := h6 i v e
      exact ⟨v', a, b.low (lowL_mem hl v (List.mem_of_getElem? e))⟩, h7, h8, h9⟩
  | dead => trivial
  | map es =>
    obtain ⟨ents, k, h1, h2, h3⟩ := h
    refine ⟨ents, k, h1, h2, fun i q v e => ?_⟩
    obtain ⟨en, a, b, c⟩ := h3 i q v e
    have := List.all_eq_true.1 hl (q, v) (List.mem_of_getElem? e)
    simp only [Bool.and_eq_true] at this
    exact ⟨en, a, b.low this.1, c.low this.2⟩
  | loop st pe f ps x y =>
    obtain ⟨r, h1, h2, h3, h4, h5⟩ := h
    exact ⟨r, h1, h2, h3, h4.low hl, h5⟩

theorem resM_le (m : Mp) (n : Nat) : MpLe (resM m n) m := fun _ _ h => (resM_some h).2

/-- Back from a call that worked in the caller's heap: its new blocks are struck. -/
theorem back2 {m m' : Mp} {F F' : Fz} {H H' : Hp} {w w' : World} (hw : WR P Fb m F H w) (hw' : WR P Fb m' F' H' w') (g : Gs m F H w m' F' H' w') (hl : heapLow H' H.length = true) :
    WR P Fb (resM m' H.length) (frF m' H' w' F' fun b => H.length ≤ b) (H'.take H.length) w' ∧ Gs m F H w (resM m' H.length) (frF m' H' w' F' fun b => H.length ≤ b) (H'.take H.length) w' := by
  have hle : FzLe F' (frF m' H' w' F' fun b => H.length ≤ b) := frF_le m' H' w' F' _
  have hget : ∀ b, b < H.length → (H'.take H.length)[b]? = H'[b]? := fun b hb => by rw [List.getElem?_take, if_pos hb]
  have hmu : ∀ b, b < H.length → mutAt (H'.take H.length) b → mutAt H' b := fun b hb => by
    rintro ⟨k, hk, hm⟩
    rw [hget b hb] at hk
    exact ⟨k, hk, hm⟩
  have hdom : ∀ b p, m b = some p → resM m' H.length b = some p := fun b p h => by
    rw [resM_lt (hw.lt h)]; exact g.ml b p h
  refine ⟨⟨hw'.bs.trans hle, fun c o h => ?_, fun b p h => ?_, fun b b' p p' h1 h2 m1 m2 e => ?_, fun b p h hm => ?_⟩,
    ⟨hdom, g.fl.trans hle, fun b p h hn => ?_, fun c o h hn => ?_, fun b p h hm => g.mu b p h (hmu b (hw.lt h) hm), g.fr, g.sz, g.os, g.tape, g.out, by rw [List.length_take]; have := g.hl; omega, fun b p hn h => ?_, g.lp⟩⟩
  · unfold frF at h
    split at h
    · rename_i o' e; cases h; exact hw'.fz c _ e
    · split at h
      · exact h
      · cases h
  · obtain ⟨hb, hm⟩ := resM_some h
    obtain ⟨k, hk, hbr⟩ := hw'.blk b p hm
    refine ⟨k, (hget b hb).trans hk, ?_⟩
    refine BR.mono (MpLe.refl _) hle (fun _ => rfl) (hbr.low ?_)
    exact List.all_eq_true.1 hl k (List.mem_of_getElem? ((hget b hb).trans hk))
  · obtain ⟨hb, h1⟩ := resM_some h1
    obtain ⟨hb', h2⟩ := resM_some h2
    exact hw'.inj b b' p p' h1 h2 (hmu _ hb m1) (hmu _ hb' m2) e
  · obtain ⟨hb, h⟩ := resM_some h
    have hF := hw'.fre b p h (hmu b hb hm)
    unfold frF
    rw [hF]
    refine if_neg ?_
    rintro ⟨b', p', st, ty, cs, hS, hm', hc, hb'⟩
    by_cases e0 : st = 0
    · subst e0
      obtain ⟨k, hk, hbr⟩ := hw'.blk b' p' hm'
      rw [hb'] at hk; cases hk
      obtain ⟨_, arr, lo, hi, h2, _⟩ := hbr
      have := h2 rfl
      rw [hc, hF] at this; cases this
    · have : b' = b := hw'.inj b' b p' p hm' h ⟨_, hb', e0⟩ (hmu b hb hm) hc
      omega
  · obtain ⟨hb, h⟩ := resM_some h
    have := (g.nm b p hn h).1
    omega
  · unfold frF at h
    split at h
    · rename_i o' e; exact g.nf c _ e hn
    · split at h
      · rename_i hex
        obtain ⟨b, p, st, ty, cs, hS, hm, hc, hb⟩ := hex
        have hmb : m b = none := by
          cases hmb : m b with
          | none => rfl
          | some q => have := hw.lt hmb; omega
        rcases g.nw b p hm hmb with h1 | ⟨b0, p0, h1, h2, h3⟩
        · exact .inl (by omega)
        · exact .inr ⟨b0, p0, h1, h2.trans hc, h3⟩
      · cases h
  · obtain ⟨hb, h⟩ := resM_some h
    have := (g.nm b p hn h).1
    omega

theorem call_mode2 {q : Bool} {B : Fence} (hB : Open B) {E : Env} {n : Nat} (ih : CodeS B P Fb (ev E n)) {k : Nat} {fn : Func} {Fc : CF} {mode : Nat} (hf : P.funcs[k]? = some fn) (hc : compF P mode fn = some Fc) {m : Mp} {F : Fz} {H : Hp} {w : World} (hw : WR P Fb m F H w) {vals : List AV} {us : Array Value} (hv : VRL m F vals us)
    {f : Fr} (hs : setAll Fc.params vals (Tr.fillN (.tup []) Fc.depth Fc.np) = some f) {e : Ex} {f' : Fr} {H' : Hp} (h : ev E n (.code Fc.body f H) = .ok e f' H') {v v' : AV} (hr : evRes f' H' Fc.results = some v) (hx : ∀ i, e ≠ .exit i) {d : Nat} (hzr : frz q H' H.length d v = some v') (hl : heapLow H' H.length = true) :
    CallsIn (fen B none) 0 P k us w (RetOk P Fb m F H w v' (H'.take H.length)) :=
  body_call hB ih hf hc hw hv hs h hr hx fun m' F' u w' q1 q2 q3 => by
    obtain ⟨b1, b2⟩ := back2 hw q2 q3 hl
    exact ⟨u, rfl, _, _, frz_VR q2 d v v' u hzr (fun b hb => frz_base d v v' hzr b hb) q1 _, b1, b2⟩
end Go.EV

/- Every call. -/
namespace Go.EV
open Go.RowKit
variable {P : Program} {Fb : Fz}

structure EnvOk (P : Program) (E : Env) : Prop where
  fs : ∀ k F, E.fs k = some F → ∃ fn, P.funcs[k]? = some fn ∧ (fn.name == "runtime.NumGoroutine") = false ∧ compF P F.mode fn = some F
  quiet : ∀ k, E.quiet k = true → (∀ F, E.fs k = some F → (own F.mode).isSome = true) ∧ ∀ vals H v H', E.pr k vals H = some (v, H') → H' = H
def PrimOk (B : Fence) (P : Program) (Fb : Fz) (E : Env) : Prop :=
  ∀ k vals H v H', E.pr k vals H = some (v, H') → (∃ fn c, P.funcs[k]? = some fn ∧ (fn.name == "runtime.NumGoroutine") = false ∧ fn.body = some c) ∧
    ∀ m F w us, WR P Fb m F H w → VRL m F vals us → CallsIn (fen B none) 0 P k us w (RetOk P Fb m F H w v H')

theorem frzB_hf {H : Hp} : ∀ (n : Nat) (v : AV), hf v = true → frzB H n v = []
  | 0, v, _ => by cases v <;> rfl
  | n + 1, v, h => by
    cases v <;> first | rfl | (cases h; done) | skip
    · simp only [frzB, List.flatMap_eq_nil_iff]
      intro x hx
      exact frzB_hf n x (hfL_mem (by simpa only [hf] using h) x hx)
    · simp only [frzB, List.flatMap_eq_nil_iff]
      intro x hx
      exact frzB_hf n x (hfL_mem (by simpa only [hf] using h) x hx)
theorem quiet_ev {E : Env} (hE : EnvOk P E) : ∀ n, QuietR E (ev E n) := by
  intro n g args H v H' hq h
  cases n with
  | zero => rw [ev_zero] at h; cases h
  | succ n =>
    rw [ev_succ] at h
    cases g with
    | fn k caps =>
      simp only [quietCall, Bool.and_eq_true] at hq
      have hk := hE.quiet k hq.1
      simp only [evStep] at h
      split at h
      · rename_i r H2 hp
        simp only [Res.val.injEq] at h
        obtain ⟨rfl, rfl⟩ := h
        exact hk.2 _ _ _ _ hp
      · split at h
        · cases h
        · rename_i F hF
          have hm := hk.1 F hF
          obtain ⟨q, hm⟩ := Option.isSome_iff_exists.1 hm
          rw [hm] at h
          simp only at h
          split at h
          · cases h
          split at h
          · cases h
          split at h
          · cases h
          · split at h
            · split at h
              · simp only [Res.val.injEq] at h
                obtain ⟨_, rfl⟩ := h
                have : (args ++ caps).flatMap (frzB H n) = [] := by
                  rw [List.flatMap_eq_nil_iff]
                  intro x hx
                  rcases List.mem_append.1 hx with e | e
                  · exact frzB_hf _ x (hfL_mem hq.2.2 x e)
                  · exact frzB_hf _ x (hfL_mem hq.2.1 x e)
                rw [this]; rfl
              · cases h
            · cases h
          · cases h
    | _ => cases hq

theorem compF_body {mode : Nat} {fn : Func} {F : CF} (h : compF P mode fn = some F) : ∃ c, fn.body = some c := by
  unfold compF at h
  split at h
  · cases h
  · exact ⟨_, ‹_›⟩

theorem call_step {B : Fence} (hB : Open B) {E : Env} (hE : EnvOk P E) (hp : PrimOk B P Fb E) {n : Nat} (ih : CodeS B P Fb (ev E n)) : CallS B P Fb (ev E (n + 1)) := by
  intro m F H w g gv args argv v H' hw hg ha h
  cases g with
  | yld l => exact yld_step hB ih m F H w l gv args argv v H' hw hg ha h
  | fn k caps =>
    cases hg with
    | fn _ _ vs hn hh =>
    have hall : VRL m F (args ++ caps) (argv ++ vs) := by
      refine ⟨by simp [ha.1, hn], fun i a b e1 e2 => ?_⟩
      by_cases hi : i < args.length
      · rw [List.getElem?_append_left hi] at e1
        rw [Array.getElem?_append_left (by rw [← ha.1]; exact hi)] at e2
        exact ha.2 i a b e1 e2
      · rw [List.getElem?_append_right (by omega)] at e1
        rw [Array.getElem?_append_right (by rw [← ha.1]; omega)] at e2
        exact hh (i - args.length) a b e1 (by rw [ha.1]; exact e2)
    have enter : ∀ {fn : Func} {c : Code}, P.funcs[k]? = some fn → (fn.name == "runtime.NumGoroutine") = false → fn.body = some c → CallsIn (fen B none) 0 P k (argv ++ vs) w (RetOk P Fb m F H w v H') →
        ∃ d nx, (Deferred.ofValue (.func (.func k) #[] vs) argv).run P w = .ok d w ∧ (invoke d.target d.args).run P w = .ok nx w ∧ NextOk B P Fb m F H w v H' nx ∧ ((∃ k' cs, AV.fn k caps = .fn k' cs) → ∃ fid as, nx = .enter fid as) := by
      intro fn c h1 h2 h3 h4
      obtain ⟨r1, r2⟩ := invoke_fn h1 h2 h3 vs argv w
      exact ⟨_, _, r1, r2, .inl ⟨_, _, rfl, h4⟩, fun _ => ⟨_, _, rfl⟩⟩
    rw [ev_succ] at h
    simp only [evStep] at h
    split at h
    · rename_i r H2 hpr
      simp only [Res.val.injEq] at h
      obtain ⟨rfl, rfl⟩ := h
      obtain ⟨⟨fn, c, h1, h2, h3⟩, h4⟩ := hp _ _ _ _ _ hpr
      exact enter h1 h2 h3 (h4 m F w _ hw hall)
    · split at h
      · cases h
      · rename_i Fc hF
        obtain ⟨fn, h1, h2, h3⟩ := hE.fs k Fc hF
        obtain ⟨c, hb⟩ := compF_body h3
        refine enter h1 h2 hb ?_
        split at h
        · -- in a heap of its own
          split at h
          · cases h
          rename_i vals hz
          split at h
          · cases h
          rename_i f hs
          split at h
          · cases h
          · rename_i e f1 H1 hne hev
            split at h
            · rename_i v1 hr
              split at h
              · rename_i v2 hzr
                simp only [Res.val.injEq] at h
                obtain ⟨rfl, rfl⟩ := h
                exact call_mode1 hB ih h1 h3 hw hall hz hs hev hr hne hzr
              · cases h
            · cases h
          · cases h
        · split at h
          · cases h
          rename_i f hs
          split at h
          · cases h
          · rename_i e f1 H1 hne hev
            split at h
            · rename_i v1 hr
              split at h
              · split at h
                · rename_i v2 hzr
                  cases hlow : heapLow H1 H.length with
                  | false => rw [hlow] at h; cases h
                  | true =>
                    rw [hlow] at h
                    simp only [cond_true, Res.val.injEq] at h
                    obtain ⟨rfl, rfl⟩ := h
                    exact call_mode2 hB ih h1 h3 hw hall hs hev hr hne hzr hlow
                · cases h
              · simp only [Res.val.injEq] at h
                obtain ⟨rfl, rfl⟩ := h
                exact call_mode0 hB ih h1 h3 hw hall hs hev hr hne
            · cases h
          · cases h
  | _ => rw [ev_succ] at h; cases h
end Go.EV

/- Open bools. -/
namespace Go.EV
open Go.RowKit
variable {P : Program} {Fb : Fz}

theorem FRel.skip {m : Mp} {F : Fz} {f : Fr} {t : Array Value} (h : FRel m F f t) {p : Pth} (hp : ∀ v, f.get p = some v → v = .und) (u : Value) : FRel m F f (t.setIfInBounds p.n u) := by
  intro q v hq
  obtain ⟨y, hy, hr⟩ := h q v hq
  by_cases e : p = q
  · subst e
    rw [hp v hq]
    exact ⟨u, by rw [Array.getElem?_setIfInBounds_self]; simp [(Array.getElem?_eq_some_iff.1 hy).1], .und _⟩
  · exact ⟨y, by rw [Array.getElem?_setIfInBounds_ne (fun k => e (Pth.n_inj p q k))]; exact hy, hr⟩
theorem FRel.known {m : Mp} {F : Fz} {f : Fr} {t : Array Value} (h : FRel m F f t) {p : Pth} {v : AV} {u : Value} (hu : t[p.n]? = some u) (hv : VR m F v u) : FRel m F (f.set p v) t := by
  intro q x hq
  by_cases e : p = q
  · subst e
    cases hp : f.get p with
    | none => rw [Tr.get_set_none p f v hp] at hq; cases hq
    | some y => rw [Tr.get_set_same p f v y hp] at hq; cases hq; exact ⟨u, hu, hv⟩
  · rw [Tr.get_set_ne p q f v e] at hq; exact h q x hq
theorem und_at (f : Fr) (p : Pth) : ∀ v, (f.set p .und).get p = some v → v = .und := by
  intro v h
  cases hp : f.get p with
  | none => rw [Tr.get_set_none p f _ hp] at h; cases h
  | some x => rw [Tr.get_set_same p f _ x hp] at h; exact (Option.some.inj h).symm
theorem get_set_some {f : Fr} {p q : Pth} {v u : AV} (h : f.get q = some u) : ∃ x, (f.set p v).get q = some x := by
  by_cases e : p = q
  · subst e; exact ⟨_, Tr.get_set_same p f v u h⟩
  · exact ⟨u, by rw [Tr.get_set_ne p q f v e]; exact h⟩

theorem set_last {H : Hp} {x y : Blk} : (H ++ [x]).set H.length y = H ++ [y] := by simp

structure CoinC (P : Program) (ops : Array Oper) (q r : Pth) (a b c d : CO) : Prop where
  sz : ops.size = 4
  op0 : ∃ o, ops[0]? = some o ∧ OpC P ops o a
  op1 : ∃ o, ops[1]? = some o ∧ OpC P ops o b
  op2 : ∃ o, ops[2]? = some o ∧ OpC P ops o c
  op3 : ∃ o, ops[3]? = some o ∧ OpC P ops o d
  d0 : a.dst = some q
  d3 : d.dst = some r
  ok : coinOk (masks ops.toList []) q r a b c d = true

theorem coinR_spec {ops : Array Oper} {q r : Pth} (h : coinR P ops = some (q, r)) : ∃ a b c d, CoinC P ops q r a b c d := by
  unfold coinR at h
  split at h
  · rename_i hsz
    split at h
    · rename_i a b c d hm
      split at h
      · rename_i q' r' h0 h3
        split at h
        · rename_i hok
          cases h
          simp only [optM] at hm
          split at hm
          · rename_i a' ha
            obtain ⟨l1, hm1, e1⟩ := map_some hm
            split at hm1
            · rename_i b' hb
              obtain ⟨l2, hm2, e2⟩ := map_some hm1
              split at hm2
              · rename_i c' hc
                obtain ⟨l3, hm3, e3⟩ := map_some hm2
                split at hm3
                · rename_i d' hd
                  obtain ⟨l4, hm4, e4⟩ := map_some hm3
                  cases hm4
                  subst e4; subst e3; subst e2
                  simp only [List.cons.injEq, and_true] at e1
                  obtain ⟨rfl, rfl, rfl, rfl⟩ := e1
                  obtain ⟨o0, p0, q0, _⟩ := compO1_spec ha
                  obtain ⟨o1, p1, q1, _⟩ := compO1_spec hb
                  obtain ⟨o2, p2, q2, _⟩ := compO1_spec hc
                  obtain ⟨o3, p3, q3, _⟩ := compO1_spec hd
                  exact ⟨_, _, _, _, hsz, ⟨o0, p0, q0⟩, ⟨o1, p1, q1⟩, ⟨o2, p2, q2⟩, ⟨o3, p3, q3⟩, h0, h3, hok⟩
                · cases hm3
              · cases hm2
            · cases hm1
          · cases hm
        · cases h
      · cases h
    · cases h
  · cases h

theorem isMk_spec {i : CI} (h : isMk i = true) : ∃ t b, i = .alloc t [.bool b] := by
  unfold isMk at h
  split at h
  · exact ⟨_, _, rfl⟩
  · cases h
theorem isPut_spec {b : Bool} {q : Pth} {i : CI} (h : isPut b q i = true) : i = .store 1 (.t q) (.c (.bool b)) := by
  unfold isPut at h
  split at h
  · simp only [Bool.and_eq_true, decide_eq_true_eq, beq_iff_eq] at h
    obtain ⟨rfl, rfl⟩ := h; rfl
  · cases h
theorem isGet_spec {q : Pth} {i : CI} (h : isGet q i = true) : i = .load 1 false (.t q) := by
  unfold isGet at h
  split at h
  · simp only [decide_eq_true_eq] at h; rw [h]
  · cases h

section
variable {ops : Array Oper} {q r : Pth} {ca cb cc cd : CO} {m0 : Mp} {F0 : Fz} {H0 : Hp} {w0 : World} {a0 : Act} {f0 : Fr}

structure CoinI (P : Program) (Fb : Fz) (ops : Array Oper) (q r : Pth) (m0 : Mp) (F0 : Fz) (H0 : Hp) (w0 : World) (a0 : Act) (f0 : Fr) (listed : Array Bool) (a : Act) (w : World) : Prop where
  shut : Shut ops listed
  lsz : listed.size = ops.size
  dfr : a.defers = a0.defers
  siz : a.tmps.size = a0.tmps.size
  pre : ¬ Lis listed 0 → FRel m0 F0 f0 a.tmps ∧ WR P Fb m0 F0 H0 w ∧ Gs m0 F0 H0 w0 m0 F0 H0 w
  aft : Lis listed 0 → ∃ m F t b u, FRel m F f0 a.tmps ∧ a.tmps[q.n]? = some u ∧ VR m F (.ptr H0.length 0) u ∧ WR P Fb m F (H0 ++ [.cells 1 t [.bool b]]) w ∧ Gs m0 F0 H0 w0 m F (H0 ++ [.cells 1 t [.bool b]]) w ∧ (Lis listed 3 → ∃ b', a.tmps[r.n]? = some (.bool b'))

theorem CoinI.step {B : Fence} (hB : Open B) {rec : Task → Res} (hrec : CallS B P Fb rec) {rd : Option Nat} (hC : CoinC P ops q r ca cb cc cd) (hfq : ∀ v, f0.get q = some v → v = .und) (hfr : ∀ v, f0.get r = some v → v = .und) (hq : q.n < a0.tmps.size) (hr : r.n < a0.tmps.size) (hqs : ∃ v, f0.get q = some v)
    {listed : Array Bool} {a : Act} {w : World} (inv : CoinI P Fb ops q r m0 F0 H0 w0 a0 f0 listed a w) {i : Nat} (hi : i ∈ Region.ready .any ops listed) {K : Act → World → Prop} {Q : Exit → Act → World → Prop}
    (k : ∀ a' w', CoinI P Fb ops q r m0 F0 H0 w0 a0 f0 (listed.setIfInBounds i true) a' w' → K a' w') : wpOpIn (fen B rd) 0 P ops Q i K a w := by
  obtain ⟨hlt, hnl, op, hop, hrd⟩ := ready_spec inv.lsz hi
  have hok := hC.ok
  simp only [coinOk, Bool.and_eq_true, Bool.not_eq_true', decide_eq_false_iff_not, Option.isNone_iff_eq_none] at hok
  obtain ⟨⟨⟨⟨⟨⟨⟨⟨⟨⟨⟨⟨⟨⟨g0, g1⟩, g2⟩, g3⟩, d1⟩, d2⟩, hne⟩, k0⟩, k1⟩, k2⟩, k3⟩, p1⟩, p2⟩, p3⟩, hlt4⟩ := hok
  have hnn : q.n ≠ r.n := fun e => hne (Pth.n_inj q r e)
  have hsl : i < listed.size := by rw [inv.lsz]; exact hlt
  have hL : ∀ j, Lis (listed.setIfInBounds i true) j ↔ (j = i ∨ Lis listed j) := fun j => lis_set hsl
  have hshut : Shut ops (listed.setIfInBounds i true) := by
    intro j o ho hl e he hb
    rcases (hL j).1 hl with rfl | hl
    · rw [hop] at ho; cases ho
      exact (hL _).2 (.inr (hrd e he hb))
    · exact (hL _).2 (.inr (inv.shut j o ho hl e he hb))
  have hpre : ∀ j, pred (masks ops.toList []) i j = true → Lis listed j := fun j hp => pred_shut inv.shut i j op hop hrd hp
  have wnt : ∀ {c : CO}, OpC P ops op c → c.guard = none → Region.wanted op (yielded ops a.tmps) = true := fun {c} hc hg => by
    have := hc.guard
    rw [hg] at this
    exact wanted_rel (m := m0) (F := F0) (f := f0) this (fun p q e => by cases e) rfl
  have dst : ∀ {c : CO} {d : Option Pth}, OpC P ops op c → c.dst = d → compD op.dst = some d := fun hc e => by rw [← e]; exact hc.dst
  have hsz := hC.sz
  have hi4 : i = 0 ∨ i = 1 ∨ i = 2 ∨ i = 3 := by omega
  have put1 : ∀ (p : Pth) (u : Value), compD op.dst = some (some p) → (a.put op.dst u).tmps = a.tmps.setIfInBounds p.n u := by
    intro p u h
    cases hd : op.dst with
    | none => rw [hd] at h; cases h
    | some t =>
      rw [hd] at h
      obtain ⟨p', hp, e⟩ := map_some h
      cases e
      rw [toPth_n hp]; rfl
  have put0 : ∀ (u : Value), compD op.dst = some none → a.put op.dst u = a := by
    intro u h
    cases hd : op.dst with
    | none => rfl
    | some t =>
      rw [hd] at h
      obtain ⟨p', hp, e⟩ := map_some h
      cases e
  -- the two stores
  have putt : ∀ {c : CO} (bb : Bool), OpC P ops op c → c.guard = none → c.dst = none → isPut bb q c.ins = true → Lis listed 0 → i ≠ 0 → i ≠ 3 → wpOpIn (fen B rd) 0 P ops Q i K a w := by
    intro c bb hc hg hd hp hl0 hi0 hi3
    obtain ⟨m, F, t, b, u, h1, h2, h3, h4, h5, h6⟩ := inv.aft hl0
    unfold wpOpIn
    rw [hop]
    simp only
    rw [wnt hc hg]
    simp only [if_true]
    have hci := isPut_spec hp
    refine walk_op hB hrec (co := c) (v := .tup []) (H' := H0 ++ [.cells 1 t [.bool bb]]) hc.ins (h1.known h2 h3) h4 ?_ fun m1 F1 u1 w1 q1 q2 q3 => ?_
    · obtain ⟨v, hv⟩ := hqs
      unfold evCO
      rw [hci]
      simp [evI, CX.ev, Tr.get_set_same q f0 _ v hv, evStore, AV.cells, AV.one, stc]
    · rw [put0 u1 (dst hc hd)]
      refine k _ _ ⟨hshut, by simpa using inv.lsz, inv.dfr, inv.siz, fun h => absurd ((hL 0).2 (.inr hl0)) h, fun _ => ⟨m1, F1, t, bb, u, h1.mono q3.ml q3.fl, h2, h3.mono q3.ml q3.fl, q2, h5.trans q3, fun hl => h6 (((hL 3).1 hl).resolve_left fun e => hi3 e.symm)⟩⟩
  rcases hi4 with rfl | rfl | rfl | rfl
  · obtain ⟨o, ho, hc⟩ := hC.op0
    rw [hop] at ho; cases ho
    obtain ⟨h1, h2, h3⟩ := inv.pre hnl
    obtain ⟨t, b, hci⟩ := isMk_spec k0
    unfold wpOpIn
    rw [hop]
    simp only
    rw [wnt hc g0]
    simp only [if_true]
    refine walk_op hB hrec (co := ca) (v := .ptr H0.length 0) (H' := H0 ++ [.cells 1 t [.bool b]]) hc.ins h1 h2 ?_ fun m1 F1 u1 w1 q1 q2 q3 => ?_
    · unfold evCO
      rw [hci]
      rfl
    · refine k _ _ ⟨hshut, by simpa using inv.lsz, by rw [put_defers]; exact inv.dfr, by rw [put_size]; exact inv.siz, fun h => absurd ((hL 0).2 (.inl rfl)) h, fun _ => ⟨m1, F1, t, b, u1, ?_, ?_, q1, q2, h3.trans q3, fun hl => ?_⟩⟩
      · rw [put1 q u1 (dst hc hC.d0)]
        exact (h1.mono q3.ml q3.fl).skip hfq u1
      · rw [put1 q u1 (dst hc hC.d0), Array.getElem?_setIfInBounds_self]
        simp [inv.siz, hq]
      · have hl3 := ((hL 3).1 hl).resolve_left (by decide)
        obtain ⟨o3, ho3, _⟩ := hC.op3
        exact absurd (pred_shut inv.shut 3 0 o3 ho3 (fun e he hb => inv.shut 3 o3 ho3 hl3 e he hb) p3) hnl
  · obtain ⟨o, ho, hc⟩ := hC.op1
    rw [hop] at ho; cases ho
    exact putt true hc g1 d1 k1 (hpre 0 p1) (by decide) (by decide)
  · obtain ⟨o, ho, hc⟩ := hC.op2
    rw [hop] at ho; cases ho
    exact putt false hc g2 d2 k2 (hpre 0 p2) (by decide) (by decide)
  · obtain ⟨o, ho, hc⟩ := hC.op3
    rw [hop] at ho; cases ho
    have hl0 := hpre 0 p3
    obtain ⟨m, F, t, b, u, h1, h2, h3, h4, h5, _⟩ := inv.aft hl0
    unfold wpOpIn
    rw [hop]
    simp only
    rw [wnt hc g3]
    simp only [if_true]
    have hci := isGet_spec k3
    refine walk_op hB hrec (co := cd) (v := .bool b) (H' := H0 ++ [.cells 1 t [.bool b]]) hc.ins (h1.known h2 h3) h4 ?_ fun m1 F1 u1 w1 q1 q2 q3 => ?_
    · obtain ⟨v, hv⟩ := hqs
      unfold evCO
      rw [hci]
      simp [evI, CX.ev, Tr.get_set_same q f0 _ v hv, evLoad, ldc]
    · have hu1 : u1 = .bool b := by cases q1; rfl
      refine k _ _ ⟨hshut, by simpa using inv.lsz, by rw [put_defers]; exact inv.dfr, by rw [put_size]; exact inv.siz, fun h => absurd ((hL 0).2 (.inr hl0)) h, fun _ => ⟨m1, F1, t, b, u, ?_, ?_, h3.mono q3.ml q3.fl, q2, h5.trans q3, fun hl => ⟨b, ?_⟩⟩⟩
      · rw [put1 r u1 (dst hc hC.d3)]
        exact (h1.mono q3.ml q3.fl).skip hfr u1
      · rw [put1 r u1 (dst hc hC.d3), Array.getElem?_setIfInBounds_ne (fun e => hnn e.symm)]
        exact h2
      · rw [put1 r u1 (dst hc hC.d3), Array.getElem?_setIfInBounds_self, hu1]
        simp [inv.siz, hr]

theorem walk_coin {B : Fence} (hB : Open B) {rec : Task → Res} (hrec : CallS B P Fb rec) (hmix : P.follows .mixedOrders = true) {rd : Option Nat} {id : Nat} (hc : coinR P ops = some (q, r)) {m : Mp} {F : Fz} {f : Fr} {a : Act} {H : Hp} {w : World} (hf : FRel m F f a.tmps) (hw : WR P Fb m F H w) {v1 v2 : AV} (hq : f.get q = some v1) (hr : f.get r = some v2) {Q : Exit → Act → World → Prop}
    (k : ∀ m' F' a' w' b, FRel m' F' ((f.set q .und).set r .und) a'.tmps → a'.tmps[r.n]? = some (.bool b) → WR P Fb m' F' (H ++ [.dead]) w' → Gs m F H w m' F' (H ++ [.dead]) w' → a'.defers = a.defers → a'.tmps.size = a.tmps.size → Q .normal a' w') : (Code.region id ops true).wpIn (fen B rd) 0 P Q a w := by
  obtain ⟨ca, cb, cc, cd, hC⟩ := coinR_spec hc
  have hne : q ≠ r := by
    have := hC.ok
    simp only [coinOk, Bool.and_eq_true, Bool.not_eq_true', decide_eq_false_iff_not] at this
    exact this.1.1.1.1.1.1.1.1.2
  have hlt4 : ∀ (i j : Nat), i < ops.size → pred (masks ops.toList []) i j = true → j < i := by
    have := hC.ok
    simp only [coinOk, Bool.and_eq_true] at this
    intro i j hi hp
    have hm := List.all_eq_true.1 this.2 i (by rw [List.mem_range, ← hC.sz]; exact hi)
    have hm := of_decide_eq_true hm
    unfold pred at hp
    rcases Nat.lt_or_ge j i with h | h
    · exact h
    · have := Nat.testBit_lt_two_pow (Nat.lt_of_lt_of_le hm (Nat.pow_le_pow_right (by omega) h))
      rw [this] at hp; cases hp
  obtain ⟨u1, hu1, _⟩ := hf q v1 hq
  obtain ⟨u2, hu2, _⟩ := hf r v2 hr
  have hfq : ∀ v, ((f.set q .und).set r .und).get q = some v → v = .und := fun v h => by
    rw [Tr.get_set_ne r q _ _ (fun e => hne e.symm)] at h
    exact und_at f q v h
  have hfr : ∀ v, ((f.set q .und).set r .und).get r = some v → v = .und := und_at _ r
  have hqs : ∃ v, ((f.set q .und).set r .und).get q = some v := by
    obtain ⟨x, hx⟩ := get_set_some (p := q) (v := .und) hq
    exact get_set_some hx
  refine wpIn_region_any hmix ?_
  obtain ⟨w1, g1⟩ := hw.drew
  have fin : ∀ (listed : Array Bool) (a' : Act) (w' : World), CoinI P Fb ops q r m F H w a ((f.set q .und).set r .und) listed a' w' → Region.ready .any ops listed = [] → Q .normal a' w' := by
    intro listed a' w' inv hrd
    have hall := all_listed rfl inv.lsz hlt4 hrd
    obtain ⟨m1, F1, t, b, u, h1, h2, h3, h4, h5, h6⟩ := inv.aft (hall 0 (by rw [hC.sz]; decide))
    obtain ⟨b', hb'⟩ := h6 (hall 3 (by rw [hC.sz]; decide))
    obtain ⟨z1, z2⟩ := h4.kill H.length
    rw [set_last] at z1 z2
    exact k m1 F1 a' w' b' h1 hb' z1 (h5.trans z2) inv.dfr inv.siz
  have go : ∀ (fuel : Nat) (listed : Array Bool) (a' : Act) (w' : World), cnt listed.toList ≤ fuel → CoinI P Fb ops q r m F H w a ((f.set q .und).set r .und) listed a' w' → wpAnyIn (fen B rd) 0 P .any ops Q fuel listed a' w' := by
    intro fuel
    induction fuel with
    | zero =>
      intro listed a' w' hcn inv
      have hrd : Region.ready .any ops listed = [] := by
        cases hrr : Region.ready .any ops listed with
        | nil => rfl
        | cons i rr =>
          exfalso
          obtain ⟨h1, h2, _⟩ := ready_spec inv.lsz (i := i) (by rw [hrr]; exact List.mem_cons_self ..)
          have h3 : listed.toList[i]? = some (listed[i]'(by rw [inv.lsz]; exact h1)) := by rw [Array.getElem?_toList]; exact Array.getElem?_eq_getElem (by rw [inv.lsz]; exact h1)
          have := cnt_zero _ (by omega) i _ h3
          apply h2
          unfold Lis
          rw [Array.getD_eq_getD_getElem?, Array.getElem?_eq_getElem (by rw [inv.lsz]; exact h1)]
          simpa using this
      exact ⟨hrd, fin listed a' w' inv hrd⟩
    | succ fuel ih =>
      intro listed a' w' hcn inv
      refine ⟨fin listed a' w' inv, fun i hi => ?_⟩
      obtain ⟨h1, h2, _⟩ := ready_spec inv.lsz hi
      refine inv.step hB hrec hC hfq hfr (Array.getElem?_eq_some_iff.1 hu1).1 (Array.getElem?_eq_some_iff.1 hu2).1 hqs hi fun a2 w2 inv' => ih _ a2 w2 ?_ inv'
      have h3 : listed[i]? = some (listed[i]'(by rw [inv.lsz]; exact h1)) := Array.getElem?_eq_getElem (by rw [inv.lsz]; exact h1)
      have h4 : (listed[i]'(by rw [inv.lsz]; exact h1)) = false := by
        cases h5 : (listed[i]'(by rw [inv.lsz]; exact h1)) with
        | false => rfl
        | true => exact absurd (by unfold Lis; rw [Array.getD_eq_getD_getElem?, h3, h5]; rfl) h2
      have := cnt_set listed.toList i (by rw [Array.getElem?_toList, h3, h4])
      rw [Array.toList_setIfInBounds]
      omega
  have hno : ∀ i, ¬ Lis (Array.replicate ops.size false) i := fun i h => by
    unfold Lis at h
    rw [Array.getD_eq_getD_getElem?, Array.getElem?_replicate] at h
    split at h <;> simp at h
  exact go ops.size _ a _ (by rw [Array.toList_replicate, cnt_repl]; exact Nat.le_refl _) ⟨fun i o _ hl => absurd hl (hno i), by simp, rfl, rfl, fun _ => ⟨(hf.set_und q).set_und r, w1, g1⟩, fun h => absurd h (hno 0)⟩
end

/-! ## Two ways that meet -/
theorem joinV_or (a b : AV) : joinV a b = .und ∨ (joinV a b = a ∧ a = b) := by
  unfold joinV
  cases h : AV.beq a b with
  | false => exact .inl rfl
  | true => exact .inr ⟨rfl, AV.beq_eq a b h⟩
theorem joinF_get : ∀ (p : Pth) (f g : Fr) (v : AV), (joinF f g).get p = some v → ∃ a b, f.get p = some a ∧ g.get p = some b ∧ v = joinV a b := by
  intro p
  induction p with
  | h => intro f g v h; cases f <;> cases g <;> simp [joinF, Tr.get] at h ⊢; exact h.symm
  | l p ih => intro f g v h; cases f <;> cases g <;> simp [joinF, Tr.get] at h ⊢; exact (by obtain ⟨a, b, h1, h2, h3⟩ := ih _ _ v h; exact ⟨a, h1, b, h2, h3⟩)
  | r p ih => intro f g v h; cases f <;> cases g <;> simp [joinF, Tr.get] at h ⊢; exact (by obtain ⟨a, b, h1, h2, h3⟩ := ih _ _ v h; exact ⟨a, h1, b, h2, h3⟩)
theorem FRel.joinL {m : Mp} {F : Fz} {f g : Fr} {t : Array Value} (h : FRel m F f t) : FRel m F (joinF f g) t := fun p v e => by
  obtain ⟨a, b, h1, h2, rfl⟩ := joinF_get p f g v e
  obtain ⟨u, q1, q2⟩ := h p a h1
  refine ⟨u, q1, ?_⟩
  rcases joinV_or a b with h | ⟨h, _⟩
  · rw [h]; exact .und _
  · rw [h]; exact q2
theorem FRel.joinR {m : Mp} {F : Fz} {f g : Fr} {t : Array Value} (h : FRel m F g t) : FRel m F (joinF f g) t := fun p v e => by
  obtain ⟨a, b, h1, h2, rfl⟩ := joinF_get p f g v e
  obtain ⟨u, q1, q2⟩ := h p b h2
  refine ⟨u, q1, ?_⟩
  rcases joinV_or a b with h | ⟨h, e⟩
  · rw [h]; exact .und _
  · rw [h, e]; exact q2
theorem list_pair_eq {α β : Type} : ∀ (a b : List (α × β)), a.map (·.1) = b.map (·.1) → a.map (·.2) = b.map (·.2) → a = b
  | [], [], _, _ => rfl
  | [], _ :: _, h, _ => by simp at h
  | _ :: _, [], h, _ => by simp at h
  | (x, y) :: a, (x', y') :: b, h, k => by
    simp at h k
    rw [h.1, k.1, list_pair_eq a b (by simpa using h.2) (by simpa using k.2)]
theorem joinB_or (a b : Blk) : joinB a b = .dead ∨ (joinB a b = a ∧ a = b) := by
  unfold joinB
  split
  · rename_i s t a s' t' b
    cases h : (decide (s = s') && decide (t = t') && AV.beqL a b) with
    | false => exact .inl rfl
    | true =>
      simp only [Bool.and_eq_true, decide_eq_true_eq] at h
      obtain ⟨⟨rfl, rfl⟩, h⟩ := h
      exact .inr ⟨rfl, by rw [AV.beqL_eq a b h]⟩
  · rename_i a b
    cases h : (AV.beqL (a.map (·.1)) (b.map (·.1)) && AV.beqL (a.map (·.2)) (b.map (·.2))) with
    | false => exact .inl rfl
    | true =>
      simp only [Bool.and_eq_true] at h
      exact .inr ⟨rfl, by rw [list_pair_eq a b (AV.beqL_eq _ _ h.1) (AV.beqL_eq _ _ h.2)]⟩
  · exact .inl rfl
/-- What stands at a place where two heaps meet. -/
def Met (k0 : Option Blk) (k1 k2 k : Blk) : Prop :=
  k = .dead ∨ (k = k1 ∧ k = k2) ∨ ∃ s e f p c d f1 p1 c1 d1 f2 p2 c2 d2, k0 = some (.loop s e f p c d) ∧ k = .loop s e f p c d ∧ k1 = .loop s e f1 p1 c1 d1 ∧ k2 = .loop s e f2 p2 c2 d2
theorem Met.of {k0 : Option Blk} {a b : Blk} : Met k0 a b (joinB a b) := by
  rcases joinB_or a b with h | ⟨h, e⟩
  · exact .inl h
  · exact .inr (.inl ⟨h, h.trans e⟩)
theorem joinH_met : ∀ (H0 H1 H2 H : Hp), joinH H0 H1 H2 = some H → H.length = H1.length ∧ H.length = H2.length ∧ H0.length ≤ H.length ∧ ∀ (b : Nat) (k : Blk), H[b]? = some k → ∃ k1 k2, H1[b]? = some k1 ∧ H2[b]? = some k2 ∧ Met (H0[b]?) k1 k2 k := by
  intro H0 H1 H2
  fun_induction joinH H0 H1 H2 with
  | case1 a x b y ih =>
    intro H h
    obtain ⟨H', h1, rfl⟩ := map_some h
    obtain ⟨r1, r2, r3, r4⟩ := ih H' h1
    refine ⟨by simp [r1], by simp [r2], by simp, fun i k e => ?_⟩
    cases i with
    | zero => simp only [List.getElem?_cons_zero, Option.some.injEq] at e; subst e; exact ⟨a, b, rfl, rfl, .of⟩
    | succ i =>
      obtain ⟨k1, k2, q1, q2, q3⟩ := r4 i k (by simpa using e)
      exact ⟨k1, k2, by simpa using q1, by simpa using q2, by simpa using q3⟩
  | case2 s e f p c d z x y s1 e1 f1 p1 c1 d1 s2 e2 f2 p2 c2 d2 heq ih =>
    intro H h
    obtain ⟨H', h1, rfl⟩ := map_some h
    obtain ⟨r1, r2, r3, r4⟩ := ih H' h1
    refine ⟨by simp [r1], by simp [r2], by simp; omega, fun i k e => ?_⟩
    cases i with
    | zero =>
      simp only [List.getElem?_cons_zero, Option.some.injEq] at e; subst e
      obtain ⟨rfl, rfl, rfl, rfl⟩ := heq
      exact ⟨_, _, rfl, rfl, .inr (.inr ⟨_, _, _, _, _, _, _, _, _, _, _, _, _, _, rfl, rfl, rfl, rfl⟩)⟩
    | succ i =>
      obtain ⟨k1, k2, q1, q2, q3⟩ := r4 i k (by simpa using e)
      exact ⟨k1, k2, by simpa using q1, by simpa using q2, by simpa using q3⟩
  | case3 => intro H h; cases h
  | case4 => intro H h; cases h
  | case5 k0 z a x b y hne ih =>
    intro H h
    obtain ⟨H', h1, rfl⟩ := map_some h
    obtain ⟨r1, r2, r3, r4⟩ := ih H' h1
    refine ⟨by simp [r1], by simp [r2], by simp; omega, fun i k e => ?_⟩
    cases i with
    | zero => simp only [List.getElem?_cons_zero, Option.some.injEq] at e; subst e; exact ⟨a, b, rfl, rfl, .of⟩
    | succ i =>
      obtain ⟨k1, k2, q1, q2, q3⟩ := r4 i k (by simpa using e)
      exact ⟨k1, k2, by simpa using q1, by simpa using q2, by simpa using q3⟩
  | case6 => intro H h; cases h; exact ⟨rfl, rfl, Nat.le_refl _, fun b k e => by simp at e⟩
  | case7 => intro H h; cases h

/-- Either way's heap answers to where they meet. -/
theorem WR.meet {m m' : Mp} {F F' : Fz} {H0 H1 H : Hp} {w w' : World} (hw : WR P Fb m F H0 w) (hw' : WR P Fb m' F' H1 w') (g : Gs m F H0 w m' F' H1 w') (hl : H.length = H1.length) (h0 : H0.length ≤ H.length)
    (hm : ∀ (b : Nat) (k : Blk), H[b]? = some k → ∃ k1, H1[b]? = some k1 ∧ (k = .dead ∨ k = k1 ∨ ∃ s e f p c d f1 p1 c1 d1, H0[b]? = some (.loop s e f p c d) ∧ k = .loop s e f p c d ∧ k1 = .loop s e f1 p1 c1 d1)) :
    WR P Fb m' F' H w' ∧ Gs m F H0 w m' F' H w' ∧ ∀ b, mutAt H b → mutAt H1 b := by
  have hmu : ∀ b, mutAt H b → mutAt H1 b := by
    rintro b ⟨k, hk, hkm⟩
    obtain ⟨k1, h1, h2⟩ := hm b k hk
    refine ⟨k1, h1, ?_⟩
    rcases h2 with rfl | rfl | ⟨_, _, _, _, _, _, _, _, _, _, _, _, rfl⟩
    · cases hkm
    · exact hkm
    · trivial
  refine ⟨⟨hw'.bs, hw'.fz, fun b p h => ?_, fun b b' p p' h1 h2 m1 m2 e => hw'.inj b b' p p' h1 h2 (hmu _ m1) (hmu _ m2) e, fun b p h hk => hw'.fre b p h (hmu _ hk)⟩,
    ⟨g.ml, g.fl, g.nw, g.nf, fun b p h hk => g.mu b p h (hmu _ hk), g.fr, g.sz, g.os, g.tape, g.out, h0, fun b p hn h => by rw [hl]; exact g.nm b p hn h, g.lp⟩, hmu⟩
  obtain ⟨k1, hk1, hb⟩ := hw'.blk b p h
  have hlt : b < H.length := by rw [hl]; exact (List.getElem?_eq_some_iff.1 hk1).1
  obtain ⟨k1', hk1', hc⟩ := hm b H[b] (List.getElem?_eq_getElem hlt)
  rw [hk1] at hk1'; cases hk1'
  refine ⟨H[b], List.getElem?_eq_getElem hlt, ?_⟩
  rcases hc with hc | hc | ⟨s, e, f, ps, c, d, f1, p1, c1, d1, e0, hc, e1⟩
  · rw [hc]; trivial
  · rw [hc]; exact hb
  · rw [hc]
    cases hmb : m b with
    | none => have := (g.nm b p hmb h).1; have := (List.getElem?_eq_some_iff.1 e0).1; omega
    | some p0 =>
      have := g.ml b p0 hmb
      rw [h] at this; cases this
      obtain ⟨r, hr, _, _, q3, q4, q5, q6⟩ := loop_at hw hmb e0
      obtain ⟨r', hr', hs⟩ := g.lp p.c r hr
      obtain ⟨r2, hr2, z1, z2, _⟩ := loop_at hw' h (by rw [hk1, e1])
      rw [hr'] at hr2; cases hr2
      exact ⟨r', hr', z1, z2, by rw [hs.1]; exact q3.mono g.ml g.fl, by rw [hs.2.1]; exact q4, by rw [hs.2.2.1]; exact q5, by rw [hs.2.2.2]; exact q6⟩

theorem Dfr.less {a a' : Act} {w : World} {m' : Mp} {F' : Fz} {H' H2 : Hp} {w' : World} (h : Dfr a a' w m' F' H' w') (hm : ∀ b, mutAt H2 b → mutAt H' b) : Dfr a a' w m' F' H2 w' := by
  obtain ⟨ds, h1, h2, h3⟩ := h
  exact ⟨ds, h1, h2, fun D hD => ⟨(h3 D hD).1, (h3 D hD).2.at_, (h3 D hD).2.fz, fun b p hb hk => (h3 D hD).2.mp b p hb (hm b hk)⟩⟩

theorem compC_coin {code : Code} {q t : Pth} {x y : CC} (h : compC P code = some (.coin q t x y)) : ∃ id ops r' cx cy, code = .seq (.region id ops true) (.cond (.tmp r') cx cy) ∧ coinR P ops = some (q, t) ∧ toPth r' = some t ∧ compC P cx = some x ∧ compC P cy = some y := by
  cases code with
  | seq a b =>
    unfold compC at h
    split at h
    · rename_i q' r' t' cx cy hco
      split at h
      · rename_i hp
        split at h
        · rename_i x' y' hx hy
          cases h
          cases a with
          | region id ops dr =>
            cases dr with
            | true => exact ⟨id, ops, _, _, _, rfl, hco, hp, hx, hy⟩
            | false => cases hco
          | _ => cases hco
        · cases h
      · cases h
    · cases h
    · split at h <;> cases h
  | region id ops draw =>
    cases draw <;> (unfold compC at h; obtain ⟨c, _, h2⟩ := map_some h; cases h2)
  | rangeFunc a b c d =>
    unfold compC at h
    repeat' split at h
    all_goals cases h
  | cond a b c =>
    unfold compC at h
    repeat' split at h
    all_goals cases h
  | block id c => unfold compC at h; obtain ⟨c, _, h2⟩ := map_some h; cases h2
  | loop c => unfold compC at h; obtain ⟨c, _, h2⟩ := map_some h; cases h2
  | scope c => unfold compC at h; obtain ⟨c, _, h2⟩ := map_some h; cases h2
  | _ => simp only [compC] at h; cases h

theorem coin_step {B : Fence} (hB : Open B) {E : Env} {n : Nat} (ih : CodeS B P Fb (ev E n)) (ihc : CallS B P Fb (ev E n)) (hmix : P.follows .mixedOrders = true) : CoinS B P Fb E n := by
  intro q t x y f H e f' H' h code hc m F a w rd Q hf hw hr k
  obtain ⟨id, ops, r', cx, cy, rfl, hco, hp, hx, hy⟩ := compC_coin hc
  rw [ev_succ] at h
  simp only [evStep] at h
  split at h
  · rename_i v1 v2 hq ht
    split at h
    · rename_i e1 f1 H1 e2 f2 H2 h1 h2
      split at h
      · rename_i he
        subst he
        split at h
        · rename_i Hj hj
          simp only [Res.ok.injEq] at h
          obtain ⟨rfl, rfl, rfl⟩ := h
          obtain ⟨j1, j2, j3, j4⟩ := joinH_met _ _ _ _ hj
          refine wpIn_seq (walk_coin hB ihc hmix hco hf hw hq ht fun m1 F1 a1 w1 b q1 q2 q3 q4 q5 q6 => ?_)
          have hev : a1.eval (.tmp r') = .bool b := by
            have : a1.tmps[r']? = some (.bool b) := by rw [← toPth_n hp]; exact q2
            simp [Act.eval, this]
          refine wpIn_cond hev ?_
          cases b with
          | true =>
            refine ih x _ _ e1 f1 H1 h1 cx hx m1 F1 a1 w1 rd Q q1 q3 (hr.mono q4) fun m2 F2 a2 w2 s1 s2 s3 s4 s5 => ?_
            obtain ⟨z1, z2, z3⟩ := q3.meet s2 s3 j1 j3 fun b k hk => by
              obtain ⟨k1, k2, y1, y2, y3⟩ := j4 b k hk
              refine ⟨k1, y1, ?_⟩
              rcases y3 with h | ⟨h, _⟩ | ⟨s, e, f, p, c, d, f1, p1, c1, d1, f2, p2, c2, d2, i1, i2, i3, i4⟩
              · exact .inl h
              · exact .inr (.inl h)
              · exact .inr (.inr ⟨s, e, f, p, c, d, f1, p1, c1, d1, i1, i2, i3⟩)
            exact (k.after q4 (Dfr.same q5) q6 fun _ _ q => q) m2 F2 a2 w2 s1.joinL z1 z2 (s4.less z3) s5
          | false =>
            refine ih y _ _ e1 f2 H2 h2 cy hy m1 F1 a1 w1 rd Q q1 q3 (hr.mono q4) fun m2 F2 a2 w2 s1 s2 s3 s4 s5 => ?_
            obtain ⟨z1, z2, z3⟩ := q3.meet s2 s3 j2 j3 fun b k hk => by
              obtain ⟨k1, k2, y1, y2, y3⟩ := j4 b k hk
              refine ⟨k2, y2, ?_⟩
              rcases y3 with h | ⟨_, h⟩ | ⟨s, e, f, p, c, d, f1, p1, c1, d1, f2, p2, c2, d2, i1, i2, i3, i4⟩
              · exact .inl h
              · exact .inr (.inl h)
              · exact .inr (.inr ⟨s, e, f, p, c, d, f2, p2, c2, d2, i1, i2, i4⟩)
            exact (k.after q4 (Dfr.same q5) q6 fun _ _ q => q) m2 F2 a2 w2 s1.joinR z1 z2 (s4.less z3) s5
        · cases h
      · cases h
    · cases h
  · cases h
end Go.EV

/- The evaluator is sound. -/
namespace Go.EV
open Go.RowKit
variable {P : Program} {Fb : Fz}

theorem ev_sound {B : Fence} (hB : Open B) {E : Env} (hE : EnvOk P E) (hp : PrimOk B P Fb E) (hmix : P.follows .mixedOrders = true) : ∀ n, (∀ k, k ≤ n → CodeS B P Fb (ev E k)) ∧ ∀ k, k ≤ n → CallS B P Fb (ev E k) := by
  intro n
  induction n with
  | zero =>
    refine ⟨fun k hk => ?_, fun k hk => ?_⟩
    · have : k = 0 := by omega
      subst this
      intro cc f H e f' H' h
      rw [ev_zero] at h; cases h
    · have : k = 0 := by omega
      subst this
      intro m F H w g gv args argv v H' _ _ _ h
      rw [ev_zero] at h; cases h
  | succ n ih =>
    obtain ⟨ih1, ih2⟩ := ih
    refine ⟨fun k hk => ?_, fun k hk => ?_⟩
    · rcases Nat.lt_or_ge k (n + 1) with h | h
      · exact ih1 k (by omega)
      · have : k = n + 1 := by omega
        subst this
        exact code_step hB ih1 ih2 (quiet_ev hE) hmix (fun k hk => rng_step hB (ih2 k hk)) (fun k hk => coin_step hB (ih1 k hk) (ih2 k hk) hmix)
    · rcases Nat.lt_or_ge k (n + 1) with h | h
      · exact ih2 k (by omega)
      · have : k = n + 1 := by omega
        subst this
        exact call_step hB hE hp (ih1 n (Nat.le_refl _))

/-- **A CALL THAT THE EVALUATOR ANSWERS IS ANSWERED SO BY THE PROGRAM.** -/
theorem ev_calls {B : Fence} (hB : Open B) {E : Env} (hE : EnvOk P E) (hp : PrimOk B P Fb E) (hmix : P.follows .mixedOrders = true) {n k : Nat} {vals : List AV} {H : Hp} {v : AV} {H' : Hp} (h : ev E n (.call (.fn k []) vals H) = .val v H') {m : Mp} {F : Fz} {w : World} (hw : WR P Fb m F H w) {us : Array Value} (hv : VRL m F vals us) :
    CallsIn (fen B none) 0 P k us w (RetOk P Fb m F H w v H') := by
  obtain ⟨d, nx, h1, h2, h3, h4⟩ := (ev_sound hB hE hp hmix n).2 n (Nat.le_refl _) m F H w (.fn k []) (.func (.func k) #[] #[]) vals us v H' hw (.fn k [] #[] rfl (fun i v v' e => by simp at e)) hv h
  rcases h3 with ⟨fid, as, rfl, hc⟩ | ⟨l, fid, tm, x, y, rfl, hc⟩
  · have hd : d = { target := .fn (.func k) #[], args := us } := by
      have : (Deferred.ofValue (.func (.func k) #[] #[]) us).run P w = .ok { target := .fn (.func k) #[], args := us } w := by simp [Deferred.ofValue]
      rw [this] at h1
      simp only [Result.ok.injEq] at h1
      exact h1.1.symm
    have hen : fid = k ∧ as = us := by
      cases n with
      | zero => rw [ev_zero] at h; cases h
      | succ n =>
        rw [ev_succ] at h
        simp only [evStep] at h
        have fin : ∀ {fn : Func} {c : Code}, P.funcs[k]? = some fn → (fn.name == "runtime.NumGoroutine") = false → fn.body = some c → fid = k ∧ as = us := by
          intro fn c q1 q2 q3
          obtain ⟨_, r2⟩ := invoke_fn q1 q2 q3 #[] us w
          rw [hd, r2] at h2
          simp only [Result.ok.injEq, Next.enter.injEq] at h2
          exact ⟨h2.1.1.symm, by rw [← h2.1.2]; simp⟩
        split at h
        · rename_i r H2 hpr
          obtain ⟨⟨fn, c, q1, q2, q3⟩, _⟩ := hp _ _ _ _ _ hpr
          exact fin q1 q2 q3
        · split at h
          · cases h
          · rename_i Fc hF
            obtain ⟨fn, q1, q2, q3⟩ := hE.fs k Fc hF
            obtain ⟨c, q4⟩ := compF_body q3
            exact fin q1 q2 q4
    rw [hen.1, hen.2] at hc
    exact hc
  · obtain ⟨_, _, e⟩ := h4 ⟨_, _, rfl⟩
    cases e
end Go.EV
