/- Frames: what is read is what was written. -/
import Derived.Test.YtkcabichlinkmaaGreatDoorHM1
import Derived.KernelRfl
namespace Go.EV
theorem Pth.n_inj : ∀ p q : Pth, p.n = q.n → p = q := by
  intro p
  induction p with
  | h => intro q hq; cases q <;> simp [Pth.n] at hq ⊢
  | l p ih => intro q hq; cases q with
    | h => simp [Pth.n] at hq
    | l q => rw [ih q (by simp [Pth.n] at hq; omega)]
    | r q => simp [Pth.n] at hq; omega
  | r p ih => intro q hq; cases q with
    | h => simp [Pth.n] at hq
    | l q => simp [Pth.n] at hq; omega
    | r q => rw [ih q (by simp [Pth.n] at hq; omega)]
theorem Tr.get_set_same {α : Type} : ∀ (p : Pth) (t : Tr α) (v u : α), t.get p = some u → (t.set p v).get p = some v := by
  intro p
  induction p with
  | h => intro t v u h; cases t <;> simp [Tr.get, Tr.set] at h ⊢
  | l p ih => intro t v u h; cases t with
    | leaf => simp [Tr.get] at h
    | node l x r => simp only [Tr.get, Tr.set] at h ⊢; exact ih l v u h
  | r p ih => intro t v u h; cases t with
    | leaf => simp [Tr.get] at h
    | node l x r => simp only [Tr.get, Tr.set] at h ⊢; exact ih r v u h
theorem Tr.get_leaf {α : Type} (p : Pth) : (Tr.leaf : Tr α).get p = none := by cases p <;> rfl
theorem Tr.set_leaf {α : Type} (p : Pth) (v : α) : (Tr.leaf : Tr α).set p v = .leaf := by cases p <;> rfl
theorem Tr.get_set_ne {α : Type} : ∀ (p q : Pth) (t : Tr α) (v : α), p ≠ q → (t.set p v).get q = t.get q := by
  intro p
  induction p with
  | h => intro q t v h; cases t with
    | leaf => rw [Tr.set_leaf]
    | node l x r => cases q with
      | h => exact absurd rfl h
      | l q => rfl
      | r q => rfl
  | l p ih => intro q t v h; cases t with
    | leaf => rw [Tr.set_leaf]
    | node l x r => cases q with
      | h => rfl
      | l q => exact ih q l v (fun e => h (by rw [e]))
      | r q => rfl
  | r p ih => intro q t v h; cases t with
    | leaf => rw [Tr.set_leaf]
    | node l x r => cases q with
      | h => rfl
      | l q => rfl
      | r q => exact ih q r v (fun e => h (by rw [e]))
theorem Tr.get_set_none {α : Type} : ∀ (p : Pth) (t : Tr α) (v : α), t.get p = none → (t.set p v).get p = none := by
  intro p
  induction p with
  | h => intro t v h; cases t <;> simp [Tr.get, Tr.set] at h ⊢
  | l p ih => intro t v h; cases t with
    | leaf => simp [Tr.set, Tr.get]
    | node l x r => simp only [Tr.get, Tr.set] at h ⊢; exact ih l v h
  | r p ih => intro t v h; cases t with
    | leaf => simp [Tr.set, Tr.get]
    | node l x r => simp only [Tr.get, Tr.set] at h ⊢; exact ih r v h
end Go.EV

/- More fuel, the same answer. -/
namespace Go.EV

/-- What one answers, the other answers. -/
def Les (a b : Res) : Prop := a = .bad ∨ a = b
theorem Les.refl (a : Res) : Les a a := .inr rfl
theorem Les.bad (b : Res) : Les .bad b := .inl rfl
def LesR (r r' : Task → Res) : Prop := ∀ t, Les (r t) (r' t)
def LesO {α : Type} (a b : Option α) : Prop := a = none ∨ a = b

theorem evCO_les {r r' : Task → Res} (h : LesR r r') (o : CO) (f : Fr) (H : Hp) : LesO (evCO r o f H) (evCO r' o f H) := by
  unfold evCO
  split
  · rename_i g as e
    rcases h (.call (g.ev f) (as.map (·.ev f)) H) with h | h
    · rw [h]; exact .inl rfl
    · rw [h]; exact .inr rfl
  · exact .inr rfl
theorem evOps_les {r r' : Task → Res} (h : LesR r r') : ∀ (l : List CO) (f : Fr) (H : Hp), Les (evOps r l f H) (evOps r' l f H)
  | [], _, _ => .inr rfl
  | o :: l, f, H => by
    unfold evOps
    split
    · rcases evCO_les h o f H with e | e
      · rw [e]; exact .inl rfl
      · rw [e]
        split
        · exact evOps_les h l _ _
        · exact .inl rfl
    · exact evOps_les h l _ _
    · exact .inl rfl
theorem evDraw_les {E : Env} {r r' : Task → Res} (h : LesR r r') : ∀ (l : List CO) (f : Fr) (H : Hp) (ts : List (Tch × Tch)), LesO (evDraw E r l f H ts) (evDraw E r' l f H ts)
  | [], _, _, _ => .inr rfl
  | o :: l, f, H, ts => by
    unfold evDraw
    split
    · rcases evCO_les h o f H with e | e
      · rw [e]; exact .inl rfl
      · rw [e]
        split
        · exact evDraw_les h l _ _ _
        · exact .inl rfl
    · exact evDraw_les h l _ _ _
    · exact .inl rfl
theorem optL_more {α β : Type} {g g' : α → Option β} : ∀ {l : List α} {x : List β}, (∀ a ∈ l, ∀ b, g a = some b → g' a = some b) → optL g l = some x → optL g' l = some x
  | [], _, _, h => h
  | a :: r, x, hg, h => by
    unfold optL at h
    split at h
    · rename_i b hb
      obtain ⟨z, hz, rfl⟩ := Option.map_eq_some_iff.1 h
      simp only [optL, hg a (List.mem_cons_self ..) b hb, optL_more (fun c hc => hg c (List.mem_cons_of_mem _ hc)) hz, Option.map_some]
    · cases h
theorem optL_mem {α β : Type} {g : α → Option β} : ∀ {l : List α} {x : List β}, optL g l = some x → ∀ a ∈ l, ∃ b, g a = some b
  | [], _, _, a, ha => by cases ha
  | c :: r, x, h, a, ha => by
    unfold optL at h
    split at h
    · rename_i b hb
      obtain ⟨z, hz, rfl⟩ := Option.map_eq_some_iff.1 h
      rcases List.mem_cons.1 ha with rfl | ha
      · exact ⟨b, hb⟩
      · exact optL_mem hz a ha
    · cases h
theorem flatMap_same {α β : Type} {g g' : α → List β} : ∀ {l : List α}, (∀ a ∈ l, g' a = g a) → l.flatMap g' = l.flatMap g
  | [], _ => rfl
  | a :: r, h => by
    rw [List.flatMap_cons, List.flatMap_cons, h a (List.mem_cons_self ..), flatMap_same fun c hc => h c (List.mem_cons_of_mem _ hc)]
theorem frz_succ {q : Bool} {H : Hp} {base : Nat} : ∀ (n : Nat) (v v' : AV), frz q H base n v = some v' → frz q H base (n + 1) v = some v' ∧ frzB H (n + 1) v = frzB H n v := by
  intro n
  induction n with
  | zero => intro v v' h; cases h
  | succ n ih =>
    intro v v' h
    have many : ∀ {l x : List AV}, optL (frz q H base n) l = some x → optL (frz q H base (n + 1)) l = some x ∧ l.flatMap (frzB H (n + 1)) = l.flatMap (frzB H n) := fun {l x} e =>
      ⟨optL_more (fun a _ b hb => (ih a b hb).1) e, flatMap_same fun a ha => by obtain ⟨b, hb⟩ := optL_mem e a ha; exact (ih a b hb).2⟩
    cases v with
    | sl es b o len =>
      rw [frz] at h ⊢
      rw [frzB, frzB]
      split at h
      · rename_i hb
        rw [if_pos hb]
        split at h
        · rename_i st ty cs hc
          split at h
          · rename_i hl
            obtain ⟨x, hx, rfl⟩ := Option.map_eq_some_iff.1 h
            have h1 : optL (optL (frz q H base (n + 1))) (chunks es cs o len) = some x := optL_more (fun a _ b hb => (many hb).1) hx
            simp only [h1, Option.map_some, if_pos hl, true_and]
            congr 1
            refine flatMap_same fun a ha => ?_
            obtain ⟨c, hc, hac⟩ := List.mem_flatten.1 ha
            obtain ⟨y, hy⟩ := optL_mem hx c hc
            obtain ⟨z, hz⟩ := optL_mem hy a hac
            exact (ih a z hz).2
          · cases h
        · cases h
      · cases h
    | agg cs =>
      rw [frz] at h ⊢
      rw [frzB, frzB]
      obtain ⟨x, hx, rfl⟩ := Option.map_eq_some_iff.1 h
      exact ⟨by rw [(many hx).1]; rfl, (many hx).2⟩
    | tup cs =>
      rw [frz] at h ⊢
      rw [frzB, frzB]
      obtain ⟨x, hx, rfl⟩ := Option.map_eq_some_iff.1 h
      exact ⟨by rw [(many hx).1]; rfl, (many hx).2⟩
    | _ => exact ⟨h, rfl⟩
theorem frz_le {q : Bool} {H : Hp} {base n m : Nat} (h : n ≤ m) {v v' : AV} (e : frz q H base n v = some v') : frz q H base m v = some v' ∧ frzB H m v = frzB H n v := by
  induction m with
  | zero => have : n = 0 := by omega
            subst this; exact ⟨e, rfl⟩
  | succ m ih =>
    by_cases k : n = m + 1
    · subst k; exact ⟨e, rfl⟩
    · have h1 := ih (by omega)
      have h2 := frz_succ m v v' h1.1
      exact ⟨h2.1, h2.2.trans h1.2⟩
theorem frzL_le {q : Bool} {H : Hp} {base n m : Nat} (h : n ≤ m) {v v' : List AV} (e : optL (frz q H base n) v = some v') : optL (frz q H base m) v = some v' ∧ v.flatMap (frzB H m) = v.flatMap (frzB H n) :=
  ⟨optL_more (fun _ _ _ hb => (frz_le h hb).1) e, flatMap_same fun a ha => by obtain ⟨b, hb⟩ := optL_mem e a ha; exact (frz_le h hb).2⟩
theorem evStep_les {E : Env} {d d' : Nat} (hd : d ≤ d') {r r' : Task → Res} (h : LesR r r') (t : Task) : Les (evStep E d r t) (evStep E d' r' t) := by
  cases t with
  | code c f H =>
    cases c with
    | skip => exact .inr rfl
    | ret => exact .inr rfl
    | exit i => exact .inr rfl
    | seq a b =>
      simp only [evStep]
      rcases h (.code a f H) with e | e
      · rw [e]; exact .inl rfl
      · rw [e]
        split
        · exact h _
        · exact .inr rfl
    | cond x a b =>
      simp only [evStep]
      split
      · exact h _
      · exact .inl rfl
    | blk i c =>
      simp only [evStep]
      rcases h (.code c f H) with e | e
      · rw [e]; exact .inl rfl
      · rw [e]; exact .inr rfl
    | loop c =>
      simp only [evStep]
      rcases h (.code c f H) with e | e
      · rw [e]; exact .inl rfl
      · rw [e]
        split
        · exact h _
        · exact .inr rfl
    | scope c => exact h _
    | reg l d =>
      cases d with
      | false => exact evOps_les h l f H
      | true =>
        simp only [evStep]
        rcases evDraw_les (E := E) h l f H [] with e | e
        · rw [e]; exact .inl rfl
        · rw [e]; exact .inr rfl
    | rng g ps a b =>
      simp only [evStep]
      split
      · rename_i k cs _
        rcases h (.call (.fn k cs) [.yld H.length] (H ++ [.loop 0 .norm f ps a b])) with e | e
        · rw [e]; exact .inl rfl
        · rw [e]; exact .inr rfl
      · exact .inl rfl
    | coin q t a b =>
      simp only [evStep]
      split
      · rcases h (.code a ((f.set q .und).set t .und) (H ++ [.dead])) with e | e
        · rw [e]; exact .inl rfl
        · rw [e]
          rcases h (.code b ((f.set q .und).set t .und) (H ++ [.dead])) with e2 | e2
          · rw [e2]
            left
            split
            · rename_i _ heq; cases heq
            · rfl
          · rw [e2]; exact .inr rfl
      · exact .inl rfl
  | call g args H =>
    cases g with
    | fn k caps =>
      simp only [evStep]
      split
      · exact .inr rfl
      · split
        · exact .inl rfl
        · rename_i F _
          split
          · rename_i q _
            cases e0 : optL (frz q H 0 d) (args ++ caps) with
            | none => exact .inl rfl
            | some vs =>
              obtain ⟨e1, e2⟩ := frzL_le hd e0
              simp only [e1, e2]
              split
              · exact .inl rfl
              · rename_i f _
                rcases h (.code F.body f []) with e | e
                · rw [e]; exact .inl rfl
                · rw [e]
                  split
                  · exact .inr rfl
                  · rename_i f' H' _ _
                    split
                    · rename_i v _
                      cases e3 : frz q H' 0 d v with
                      | none => exact .inl rfl
                      | some v' => simp only [(frz_le hd e3).1]; exact .inr rfl
                    · exact .inr rfl
                  · exact .inr rfl
          · split
            · exact .inl rfl
            · rename_i f _
              rcases h (.code F.body f H) with e | e
              · rw [e]; exact .inl rfl
              · rw [e]
                split
                · exact .inr rfl
                · rename_i f' H' _ _
                  split
                  · rename_i v _
                    split
                    · cases e3 : frz false H' H.length d v with
                      | none => exact .inl rfl
                      | some v' => simp only [(frz_le hd e3).1]; exact .inr rfl
                    · exact .inr rfl
                  · exact .inr rfl
                · exact .inr rfl
    | yld l =>
      simp only [evStep]
      split
      · rename_i f ps a _ _
        split
        · exact .inl rfl
        · rename_i f0 _
          rcases h (.code a f0 H) with e | e
          · rw [e]; exact .inl rfl
          · rw [e]
            split
            · rename_i f1 H1 _
              split
              · rename_i f2 ps2 a2 b2 _
                rcases h (.code b2 f1 (H1.set l (.loop 1 .norm f2 ps2 a2 b2))) with e | e
                · rw [e]; exact .inl rfl
                · rw [e]; exact .inr rfl
              · exact .inl rfl
            · exact .inl rfl
      · exact .inl rfl
    | _ => exact .inr rfl
theorem ev_les (E : Env) : ∀ n t, Les (ev E n t) (ev E (n + 1) t)
  | 0, t => .inl rfl
  | n + 1, t => by
    rw [ev_succ, ev_succ]
    exact evStep_les (Nat.le_succ n) (ev_les E n) t
theorem ev_more {E : Env} {n m : Nat} (hm : n ≤ m) {t : Task} {r : Res} (h : ev E n t = r) (hr : r ≠ .bad) : ev E m t = r := by
  induction m with
  | zero => have : n = 0 := by omega
            subst this; exact h
  | succ m ih =>
    by_cases e : n = m + 1
    · subst e; exact h
    · have := ih (by omega)
      rcases ev_les E m t with k | k
      · rw [this] at k; exact absurd k hr
      · rw [← k]; exact this
theorem ev_lesR (E : Env) {n m : Nat} (h : n ≤ m) : LesR (ev E n) (ev E m) := fun t => by
  by_cases hb : ev E n t = .bad
  · exact .inl hb
  · exact .inr (ev_more h rfl hb).symm
end Go.EV

/- A machine that goes step by step over compiled code: for runs on data that are told in part. -/
namespace Go.EV

inductive Kt where
  | code (c : CC)
  | blk (id : Nat)
  | ops (l : List CO)
  | dops (l all : List CO) (ts : List (Tch × Tch))
structure St where
  k : List Kt
  e : Ex
  f : Fr
  H : Hp

def runK (E : Env) (n : Nat) : List Kt → Ex → Fr → Hp → Res
  | [], e, f, H => .ok e f H
  | .code c :: k, e, f, H => match e with
    | .norm => match ev E n (.code c f H) with
      | .ok e f H => runK E n k e f H
      | _ => .bad
    | e => runK E n k e f H
  | .blk id :: k, e, f, H => match e with
    | .exit i => runK E n k (bif i == id then .norm else .exit i) f H
    | e => runK E n k e f H
  | .ops l :: k, _, f, H => match evOps (ev E n) l f H with
    | .ok _ f H => runK E n k .norm f H
    | _ => .bad
  | .dops l all ts :: k, _, f, H => match evDraw E (ev E n) l f H ts with
    | some (f, H, ts) => bif flOk all ts then runK E n k .norm f H else .bad
    | none => .bad

theorem runK_les {E : Env} {n m : Nat} (h : n ≤ m) : ∀ (k : List Kt) (e : Ex) (f : Fr) (H : Hp), Les (runK E n k e f H) (runK E m k e f H)
  | [], _, _, _ => .inr rfl
  | .code c :: k, e, f, H => by
    unfold runK
    split
    · rcases ev_lesR E h (.code c f H) with e | e
      · rw [e]; exact .inl rfl
      · rw [e]
        split
        · exact runK_les h k _ _ _
        · exact .inl rfl
    · exact runK_les h k _ _ _
  | .blk id :: k, e, f, H => by
    unfold runK
    split
    · exact runK_les h k _ _ _
    · exact runK_les h k _ _ _
  | .ops l :: k, e, f, H => by
    unfold runK
    rcases evOps_les (ev_lesR E h) l f H with e | e
    · rw [e]; exact .inl rfl
    · rw [e]
      split
      · exact runK_les h k _ _ _
      · exact .inl rfl
  | .dops l all ts :: k, e, f, H => by
    unfold runK
    rcases evDraw_les (E := E) (ev_lesR E h) l f H ts with e | e
    · rw [e]; exact .inl rfl
    · rw [e]
      split
      · rename_i f' H' ts' _
        cases flOk all ts' with
        | true => exact runK_les h k _ _ _
        | false => exact .inr rfl
      · exact .inl rfl
theorem runK_more {E : Env} {n m : Nat} (h : n ≤ m) {k : List Kt} {e : Ex} {f : Fr} {H : Hp} {e' : Ex} {f' : Fr} {H' : Hp} (hr : runK E n k e f H = .ok e' f' H') : runK E m k e f H = .ok e' f' H' := by
  rcases runK_les h k e f H with q | q
  · rw [hr] at q; cases q
  · rw [← q]; exact hr

/-- From here the run ends so. -/
def Rk (E : Env) (s : St) (Q : Ex → Fr → Hp → Prop) : Prop := ∃ n e f H, runK E n s.k s.e s.f s.H = .ok e f H ∧ Q e f H
def Cl (E : Env) (g : AV) (as : List AV) (H : Hp) (v : AV) (H1 : Hp) : Prop := ∃ n, ev E n (.call g as H) = .val v H1

def step1 (E : Env) (s : St) : Option St :=
  match s.k with
  | [] => none
  | .code c :: k => match s.e with
    | .norm => match c with
      | .skip => some ⟨k, .norm, s.f, s.H⟩
      | .ret => some ⟨k, .ret, s.f, s.H⟩
      | .exit i => some ⟨k, .exit i, s.f, s.H⟩
      | .seq a b => some ⟨.code a :: .code b :: k, .norm, s.f, s.H⟩
      | .cond x a b => match x.ev s.f with
        | .bool t => some ⟨.code (bif t then a else b) :: k, .norm, s.f, s.H⟩
        | _ => none
      | .blk i c => some ⟨.code c :: .blk i :: k, .norm, s.f, s.H⟩
      | .loop c => some ⟨.code c :: .code (.loop c) :: k, .norm, s.f, s.H⟩
      | .scope c => some ⟨.code c :: k, .norm, s.f, s.H⟩
      | .reg l false => some ⟨.ops l :: k, .norm, s.f, s.H⟩
      | .reg l true => some ⟨.dops l l [] :: k, .norm, s.f, s.H⟩
      | _ => none
    | e => some ⟨k, e, s.f, s.H⟩
  | .blk id :: k => match s.e with
    | .exit i => some ⟨k, bif i == id then .norm else .exit i, s.f, s.H⟩
    | e => some ⟨k, e, s.f, s.H⟩
  | .ops [] :: k => some ⟨k, .norm, s.f, s.H⟩
  | .ops (o :: r) :: k => match wanted o.guard s.f with
    | some true => match evI s.f s.H o.ins with
      | some (v, H) => some ⟨.ops r :: k, .norm, putD o.dst v s.f, H⟩
      | none => none
    | some false => some ⟨.ops r :: k, .norm, putD o.dst (.tup []) s.f, s.H⟩
    | none => none
  | .dops [] all ts :: k => bif flOk all ts.reverse then some ⟨k, .norm, s.f, s.H⟩ else none
  | .dops (o :: r) all ts :: k => match wanted o.guard s.f with
    | some true => match evI s.f s.H o.ins with
      | some (v, H) => some ⟨.dops r all (touch E s.f s.H H o.ins :: ts) :: k, .norm, putD o.dst v s.f, H⟩
      | none => none
    | some false => some ⟨.dops r all ((.no, .no) :: ts) :: k, .norm, putD o.dst (.tup []) s.f, s.H⟩
    | none => none

theorem evCO_evI {rec : Task → Res} {o : CO} {f : Fr} {H : Hp} {r : AV × Hp} (h : evI f H o.ins = some r) : evCO rec o f H = some r := by
  unfold evCO
  cases hi : o.ins <;> rw [hi] at h <;> first | exact h | cases h

theorem runK_ret {E : Env} {n : Nat} {c : CC} {k : List Kt} {e : Ex} {f : Fr} {H : Hp} (he : e ≠ .norm) : runK E n (.code c :: k) e f H = runK E n k e f H := by
  cases e with
  | norm => exact absurd rfl he
  | _ => rfl
theorem runK_code {E : Env} {n : Nat} {c : CC} {k : List Kt} {f : Fr} {H : Hp} {e' : Ex} {f' : Fr} {H' : Hp} (h : runK E n (.code c :: k) .norm f H = .ok e' f' H') : ∃ e f1 H1, ev E n (.code c f H) = .ok e f1 H1 ∧ runK E n k e f1 H1 = .ok e' f' H' := by
  simp only [runK] at h
  split at h
  · exact ⟨_, _, _, ‹_›, h⟩
  · cases h
theorem runK_mk {E : Env} {n : Nat} {c : CC} {k : List Kt} {f : Fr} {H : Hp} {e f1 H1} (h : ev E n (.code c f H) = .ok e f1 H1) : runK E n (.code c :: k) .norm f H = runK E n k e f1 H1 := by
  simp only [runK, h]

theorem Rk.step {E : Env} {s s' : St} {Q : Ex → Fr → Hp → Prop} (h : step1 E s = some s') (r : Rk E s' Q) : Rk E s Q := by
  obtain ⟨n, e', f', H', hr, hq⟩ := r
  obtain ⟨k, e, f, H⟩ := s
  refine ⟨n + 1, e', f', H', ?_, hq⟩
  have up : ∀ {k : List Kt} {e : Ex} {f : Fr} {H : Hp}, runK E n k e f H = .ok e' f' H' → runK E (n + 1) k e f H = .ok e' f' H' := fun h => runK_more (Nat.le_succ n) h
  unfold step1 at h
  simp only at h ⊢
  split at h
  · cases h
  · rename_i c k
    split at h
    · split at h
      · cases h; rw [runK_mk (e := .norm) (f1 := f) (H1 := H) rfl]; exact up hr
      · cases h; rw [runK_mk (e := .ret) (f1 := f) (H1 := H) rfl]; exact up hr
      · rename_i i; cases h; rw [runK_mk (e := .exit i) (f1 := f) (H1 := H) rfl]; exact up hr
      · rename_i a b
        cases h
        obtain ⟨e1, f1, H1, h1, h2⟩ := runK_code hr
        cases e1 with
        | norm =>
          obtain ⟨e2, f2, H2, h3, h4⟩ := runK_code h2
          rw [runK_mk (e := e2) (f1 := f2) (H1 := H2) (by rw [ev_succ]; simp only [evStep, h1, h3])]
          exact up h4
        | ret => rw [runK_mk (e := .ret) (f1 := f1) (H1 := H1) (by rw [ev_succ]; simp only [evStep, h1])]; exact up h2
        | exit i => rw [runK_mk (e := .exit i) (f1 := f1) (H1 := H1) (by rw [ev_succ]; simp only [evStep, h1])]; exact up h2
      · rename_i x a b
        split at h
        · rename_i t ht
          cases h
          obtain ⟨e1, f1, H1, h1, h2⟩ := runK_code hr
          rw [runK_mk (e := e1) (f1 := f1) (H1 := H1) (by rw [ev_succ]; simp only [evStep, ht, h1])]
          exact up h2
        · cases h
      · rename_i i c
        cases h
        obtain ⟨e1, f1, H1, h1, h2⟩ := runK_code hr
        cases e1 with
        | norm => rw [runK_mk (e := .norm) (f1 := f1) (H1 := H1) (by rw [ev_succ]; simp only [evStep, h1])]; exact up h2
        | ret => rw [runK_mk (e := .ret) (f1 := f1) (H1 := H1) (by rw [ev_succ]; simp only [evStep, h1])]; exact up h2
        | exit j => rw [runK_mk (e := bif j == i then .norm else .exit j) (f1 := f1) (H1 := H1) (by rw [ev_succ]; simp only [evStep, h1])]; exact up h2
      · rename_i c
        cases h
        obtain ⟨e1, f1, H1, h1, h2⟩ := runK_code hr
        cases e1 with
        | norm =>
          obtain ⟨e2, f2, H2, h3, h4⟩ := runK_code h2
          rw [runK_mk (e := e2) (f1 := f2) (H1 := H2) (by rw [ev_succ]; simp only [evStep, h1, h3])]
          exact up h4
        | ret => rw [runK_mk (e := .ret) (f1 := f1) (H1 := H1) (by rw [ev_succ]; simp only [evStep, h1])]; exact up h2
        | exit i => rw [runK_mk (e := .exit i) (f1 := f1) (H1 := H1) (by rw [ev_succ]; simp only [evStep, h1])]; exact up h2
      · rename_i c
        cases h
        obtain ⟨e1, f1, H1, h1, h2⟩ := runK_code hr
        rw [runK_mk (e := e1) (f1 := f1) (H1 := H1) (by rw [ev_succ]; simp only [evStep, h1])]
        exact up h2
      · rename_i l
        cases h
        simp only [runK] at hr
        split at hr
        · rename_i e2 f2 H2 h1
          have e2n : e2 = .norm := by
            clear hr
            have : ∀ (l : List CO) (f : Fr) (H : Hp), evOps (ev E n) l f H = .ok e2 f2 H2 → e2 = .norm := by
              intro l
              induction l with
              | nil => intro f H h; simp only [evOps, Res.ok.injEq] at h; exact h.1.symm
              | cons o l ih =>
                intro f H h
                unfold evOps at h
                split at h
                · split at h
                  · exact ih _ _ h
                  · cases h
                · exact ih _ _ h
                · cases h
            exact this _ _ _ h1
          subst e2n
          rw [runK_mk (e := .norm) (f1 := f2) (H1 := H2) (by rw [ev_succ]; simp only [evStep]; exact h1)]
          exact up hr
        · cases hr
      · rename_i l
        cases h
        simp only [runK] at hr
        split at hr
        · rename_i f2 H2 ts h1
          cases hfl : flOk l ts with
          | false => rw [hfl] at hr; cases hr
          | true =>
            rw [hfl] at hr
            rw [runK_mk (e := .norm) (f1 := f2) (H1 := H2) (by rw [ev_succ]; simp only [evStep, h1, hfl, cond_true])]
            exact up hr
        · cases hr
      · cases h
    · rename_i e0 hne
      cases h
      rw [runK_ret (fun e => hne e)]
      exact up hr
  · rename_i id k
    split at h
    · cases h; exact up hr
    · rename_i e0 hne
      cases h
      have : runK E (n + 1) (.blk id :: k) e f H = runK E (n + 1) k e f H := by
        cases e with
        | exit i => exact absurd rfl (hne i)
        | _ => rfl
      exact this.trans (up hr)
  · cases h; exact up hr
  · rename_i o l k
    split at h
    · rename_i hw
      split at h
      · rename_i v H1 hi
        cases h
        refine up (Eq.trans ?_ hr)
        simp only [runK]
        rw [evOps, hw]
        simp only [evCO_evI hi]
      · cases h
    · rename_i hw
      cases h
      refine up (Eq.trans ?_ hr)
      simp only [runK]
      rw [evOps, hw]
    · cases h
  · rename_i all ts k
    cases hfl : flOk all ts.reverse with
    | false => rw [hfl] at h; cases h
    | true =>
      rw [hfl] at h
      cases h
      refine up (Eq.trans ?_ hr)
      simp only [runK, evDraw, hfl, cond_true]
  · rename_i o l all ts k
    split at h
    · rename_i hw
      split at h
      · rename_i v H1 hi
        cases h
        refine up (Eq.trans ?_ hr)
        simp only [runK]
        rw [evDraw, hw]
        simp only [evCO_evI hi]
      · cases h
    · rename_i hw
      cases h
      refine up (Eq.trans ?_ hr)
      simp only [runK]
      rw [evDraw, hw]
    · cases h

def iter (E : Env) : Nat → St → Option St
  | 0, s => some s
  | n + 1, s => match step1 E s with
    | some s' => iter E n s'
    | none => none
def adv (E : Env) (n : Nat) (s : St) : St := (iter E n s).getD s
theorem Rk.iter {E : Env} {Q : Ex → Fr → Hp → Prop} : ∀ (n : Nat) {s s' : St}, iter E n s = some s' → Rk E s' Q → Rk E s Q
  | 0, s, s', h, r => by cases h; exact r
  | n + 1, s, s', h, r => by
    unfold EV.iter at h
    split at h
    · rename_i s1 h1
      exact Rk.step h1 (Rk.iter n h r)
    · cases h
theorem Rk.adv {E : Env} {Q : Ex → Fr → Hp → Prop} (n : Nat) {s : St} (h : (EV.iter E n s).isSome = true) (r : Rk E (EV.adv E n s) Q) : Rk E s Q := by
  obtain ⟨s', hs⟩ := Option.isSome_iff_exists.1 h
  refine Rk.iter n hs ?_
  have : EV.adv E n s = s' := by unfold EV.adv; rw [hs]; rfl
  rw [← this]; exact r
theorem Rk.done {E : Env} {Q : Ex → Fr → Hp → Prop} {s : St} (h : s.k.isEmpty = true) (q : Q s.e s.f s.H) : Rk E s Q := by
  refine ⟨0, s.e, s.f, s.H, ?_, q⟩
  have : s.k = [] := by simpa using h
  rw [this]; rfl

/-! ## Calls -/
def callOf (s : St) : Option (AV × List AV) :=
  match s.k with
  | .ops (o :: _) :: _ => match wanted o.guard s.f with
    | some true => match o.ins with | .call g as => some (g.ev s.f, as.map (·.ev s.f)) | _ => none
    | _ => none
  | .dops (o :: _) _ _ :: _ => match wanted o.guard s.f with
    | some true => match o.ins with | .call g as => some (g.ev s.f, as.map (·.ev s.f)) | _ => none
    | _ => none
  | _ => none
def after (E : Env) (s : St) (v : AV) (H1 : Hp) : St :=
  match s.k with
  | .ops (o :: r) :: k => ⟨.ops r :: k, .norm, putD o.dst v s.f, H1⟩
  | .dops (o :: r) all ts :: k => ⟨.dops r all (touch E s.f s.H H1 o.ins :: ts) :: k, .norm, putD o.dst v s.f, H1⟩
  | _ => s
theorem Rk.call {E : Env} {Q : Ex → Fr → Hp → Prop} {s : St} {g : AV} {as : List AV} {v : AV} {H1 : Hp} (h : callOf s = some (g, as)) (hc : Cl E g as s.H v H1) (r : Rk E (after E s v H1) Q) : Rk E s Q := by
  obtain ⟨m, hm⟩ := hc
  obtain ⟨n, e', f', H', hr, hq⟩ := r
  obtain ⟨k, e, f, H⟩ := s
  refine ⟨max m n, e', f', H', ?_, hq⟩
  have hm := ev_more (Nat.le_max_left m n) hm (fun e => by cases e)
  have hr := runK_more (Nat.le_max_right m n) hr
  cases k with
  | nil => cases h
  | cons x k =>
  cases x with
  | code c => cases h
  | blk i => cases h
  | ops l =>
    cases l with
    | nil => cases h
    | cons o l =>
    simp only [callOf] at h
    split at h
    · rename_i hw
      split at h
      · rename_i g' as' hi
        cases h
        simp only [after] at hr
        refine Eq.trans ?_ hr
        simp only [runK]
        rw [evOps, hw]
        have : evCO (ev E (max m n)) o f H = some (v, H1) := by unfold evCO; rw [hi]; simp only [hm]
        simp only [this]
      · cases h
    · cases h
  | dops l all ts =>
    cases l with
    | nil => cases h
    | cons o l =>
    simp only [callOf] at h
    split at h
    · rename_i hw
      split at h
      · rename_i g' as' hi
        cases h
        simp only [after] at hr
        refine Eq.trans ?_ hr
        simp only [runK]
        rw [evDraw, hw]
        have : evCO (ev E (max m n)) o f H = some (v, H1) := by unfold evCO; rw [hi]; simp only [hm]
        simp only [this]
      · cases h
    · cases h

/-! ## What is told of the data -/
theorem Tr.set_same {α : Type} : ∀ (p : Pth) (f : Tr α) (v : α), f.get p = some v → f.set p v = f := by
  intro p
  induction p with
  | h => intro f v h; cases f with
    | leaf => rfl
    | node l x r => simp only [Tr.get, Option.some.injEq] at h; subst h; rfl
  | l p ih => intro f v h; cases f with
    | leaf => rfl
    | node l x r => simp only [Tr.get] at h; simp only [Tr.set, ih l v h]
  | r p ih => intro f v h; cases f with
    | leaf => rfl
    | node l x r => simp only [Tr.get] at h; simp only [Tr.set, ih r v h]
def St.put (s : St) (p : Pth) (v : AV) : St := { s with f := s.f.set p v }
def St.heap (s : St) (H : Hp) : St := { s with H := H }
theorem Rk.put {E : Env} {Q : Ex → Fr → Hp → Prop} {s : St} (p : Pth) {v : AV} (v' : AV) (hg : s.f.get p = some v) (hv : v = v') (r : Rk E (s.put p v') Q) : Rk E s Q := by
  subst hv
  have : s.put p v = s := by unfold St.put; rw [Tr.set_same p s.f v hg]
  rw [this] at r; exact r
theorem Rk.heap {E : Env} {Q : Ex → Fr → Hp → Prop} {s : St} (H : Hp) (hH : s.H = H) (r : Rk E (s.heap H) Q) : Rk E s Q := by
  subst hH; exact r
theorem Rk.split {E : Env} {Q : Ex → Fr → Hp → Prop} {s : St} (p : Pth) (e : Bool) (hg : s.f.get p = some (.bool e)) (ht : e = true → Rk E (s.put p (.bool true)) Q) (hf : e = false → Rk E (s.put p (.bool false)) Q) : Rk E s Q := by
  cases he : e with
  | true => exact Rk.put p _ hg (by rw [he]) (ht he)
  | false => exact Rk.put p _ hg (by rw [he]) (hf he)
theorem Rk.weak {E : Env} {Q Q' : Ex → Fr → Hp → Prop} {s : St} (r : Rk E s Q) (h : ∀ e f H, Q e f H → Q' e f H) : Rk E s Q' := by
  obtain ⟨n, e, f, H, h1, h2⟩ := r
  exact ⟨n, e, f, H, h1, h _ _ _ h2⟩
/-- A part of the way, then the rest. -/
theorem Rk.trans {E : Env} {Q : Ex → Fr → Hp → Prop} {c k : List Kt} {e : Ex} {f : Fr} {H : Hp} (r : Rk E ⟨c, e, f, H⟩ fun e1 f1 H1 => Rk E ⟨k, e1, f1, H1⟩ Q) : Rk E ⟨c ++ k, e, f, H⟩ Q := by
  obtain ⟨n, e1, f1, H1, h1, m, e2, f2, H2, h2, hq⟩ := r
  refine ⟨max n m, e2, f2, H2, ?_, hq⟩
  have h1 := runK_more (Nat.le_max_left n m) h1
  have h2 := runK_more (Nat.le_max_right n m) h2
  have app : ∀ (c : List Kt) (e : Ex) (f : Fr) (H : Hp), runK E (max n m) c e f H = .ok e1 f1 H1 → runK E (max n m) (c ++ k) e f H = .ok e2 f2 H2 := by
    intro c
    induction c with
    | nil => intro e f H h; simp only [runK, Res.ok.injEq] at h; obtain ⟨rfl, rfl, rfl⟩ := h; exact h2
    | cons x c ih =>
      intro e f H h
      cases x with
      | code cc =>
        simp only [List.cons_append, runK] at h ⊢
        split at h
        · split at h
          · exact ih _ _ _ h
          · cases h
        · exact ih _ _ _ h
      | blk i =>
        simp only [List.cons_append, runK] at h ⊢
        split at h
        · exact ih _ _ _ h
        · exact ih _ _ _ h
      | ops l =>
        simp only [List.cons_append, runK] at h ⊢
        split at h
        · exact ih _ _ _ h
        · cases h
      | dops l all ts =>
        simp only [List.cons_append, runK] at h ⊢
        split at h
        · rename_i f' H' ts' _
          cases hfl : flOk all ts' with
          | true => rw [hfl] at h; exact ih _ _ _ h
          | false => rw [hfl] at h; cases h
        · cases h
  exact app c e f H h1

/-! ## Functions -/
def Fin (F : CF) (v : AV) (H1 : Hp) : Ex → Fr → Hp → Prop := fun e f H => (∀ i, e ≠ .exit i) ∧ evRes f H F.results = some v ∧ H = H1
theorem Cl.mode1 {E : Env} {k : Nat} {F : CF} {as caps vs : List AV} {H : Hp} {f : Fr} {v : AV} {d : Nat} (hp : E.pr k (as ++ caps) H = none) (hF : E.fs k = some F) (hm : F.mode = 1) (hz : optL (frz false H 0 d) (as ++ caps) = some vs) (hs : setAll F.params vs (Tr.fillN (.tup []) F.depth F.np) = some f)
    (hb : Rk E ⟨[.code F.body], .norm, f, []⟩ fun e f' H' => (∀ i, e ≠ .exit i) ∧ ∃ v0 d, evRes f' H' F.results = some v0 ∧ frz false H' 0 d v0 = some v) : Cl E (.fn k caps) as H v (((as ++ caps).flatMap (frzB H d)).foldl markRo H) := by
  obtain ⟨n, e, f', H', hr, he, v0, d2, h1, h2⟩ := hb
  obtain ⟨e1, f1, H1, hq, hr2⟩ := runK_code hr
  clear hr
  simp only [runK, Res.ok.injEq] at hr2
  obtain ⟨rfl, rfl, rfl⟩ := hr2
  simp only at hq
  have hle : n ≤ max n (max d d2) := Nat.le_max_left _ _
  have hz2 := frzL_le (show d ≤ max n (max d d2) by omega) hz
  have h2' := (frz_le (show d2 ≤ max n (max d d2) by omega) h2).1
  have hq := ev_more hle hq (fun e => by cases e)
  refine ⟨max n (max d d2) + 1, ?_⟩
  rw [ev_succ]
  simp only [evStep, hp, hF, hm, own, hz2.1, hs, hq]
  cases e1 with
  | exit i => exact absurd rfl (he i)
  | norm => simp only [h1, h2', hz2.2]
  | ret => simp only [h1, h2', hz2.2]
theorem Cl.mode0 {E : Env} {k : Nat} {F : CF} {as caps : List AV} {H : Hp} {f : Fr} {v : AV} {H1 : Hp} (hp : E.pr k (as ++ caps) H = none) (hF : E.fs k = some F) (hm : F.mode = 0) (hs : setAll F.params (as ++ caps) (Tr.fillN (.tup []) F.depth F.np) = some f)
    (hb : Rk E ⟨[.code F.body], .norm, f, H⟩ fun e f' H' => (∀ i, e ≠ .exit i) ∧ evRes f' H' F.results = some v ∧ H' = H1) : Cl E (.fn k caps) as H v H1 := by
  obtain ⟨n, e, f', H', hr, he, h1, rfl⟩ := hb
  obtain ⟨e1, f1, H1, hq, hr2⟩ := runK_code hr
  clear hr
  simp only [runK, Res.ok.injEq] at hr2
  obtain ⟨rfl, rfl, rfl⟩ := hr2
  simp only at hq
  refine ⟨n + 1, ?_⟩
  rw [ev_succ]
  simp only [evStep, hp, hF, hm, own, hs, hq]
  cases e1 with
  | exit i => exact absurd rfl (he i)
  | norm => simp only [h1]
  | ret => simp only [h1]
theorem Cl.mode2 {E : Env} {k : Nat} {F : CF} {as caps : List AV} {H : Hp} {f : Fr} {v : AV} {H1 : Hp} (hp : E.pr k (as ++ caps) H = none) (hF : E.fs k = some F) (hm : F.mode = 2) (hs : setAll F.params (as ++ caps) (Tr.fillN (.tup []) F.depth F.np) = some f)
    (hb : Rk E ⟨[.code F.body], .norm, f, H⟩ fun e f' H' => (∀ i, e ≠ .exit i) ∧ heapLow H' H.length = true ∧ (∃ v0 d, evRes f' H' F.results = some v0 ∧ frz false H' H.length d v0 = some v) ∧ H'.take H.length = H1) : Cl E (.fn k caps) as H v H1 := by
  obtain ⟨n, e, f', H', hr, he, hl, ⟨v0, d, h1, h2⟩, rfl⟩ := hb
  obtain ⟨e1, f1, H1, hq, hr2⟩ := runK_code hr
  clear hr
  simp only [runK, Res.ok.injEq] at hr2
  obtain ⟨rfl, rfl, rfl⟩ := hr2
  simp only at hq
  have hq := ev_more (Nat.le_max_left n d) hq (fun e => by cases e)
  have h2 := (frz_le (Nat.le_max_right n d) h2).1
  refine ⟨max n d + 1, ?_⟩
  rw [ev_succ]
  simp only [evStep, hp, hF, hm, own, hs, hq]
  cases e1 with
  | exit i => exact absurd rfl (he i)
  | norm => simp only [h1, h2, hl, cond_true]
  | ret => simp only [h1, h2, hl, cond_true]
end Go.EV

/- The machine: functions on frozen arguments. -/
namespace Go.EV
def isEx : Ex → Bool
  | .exit _ => true
  | _ => false
theorem isEx_spec {e : Ex} (h : isEx e = false) : ∀ i, e ≠ .exit i := fun i h2 => by subst h2; cases h
def startF (F : CF) (vs : List AV) : Fr := (setAll F.params vs (Tr.fillN (.tup []) F.depth F.np)).getD .leaf
def start (F : CF) (vs : List AV) (H : Hp) : St := ⟨[.code F.body], .norm, startF F vs, H⟩
/-- What a call in a heap of its own must end with. -/
def Q1 (F : CF) (v : AV) : Ex → Fr → Hp → Prop := fun e f H => isEx e = false ∧ (evRes f H F.results).bind (frz false H 0 8) = some v
/-- The functions that are compiled, not told. -/
structure Has (E : Env) (k : Nat) (F : CF) : Prop where
  fs : E.fs k = some F
  pr : ∀ as H, E.pr k as H = none
/-- A call on frozen data: the caller's heap stays as it is. -/
theorem Cl.frozen {E : Env} {k : Nat} {F : CF} (hh : Has E k F) (as : List AV) {H : Hp} {v : AV} (hm : F.mode = 1) (hz : optL (frz false H 0 8) as = some as) (hb : as.flatMap (frzB H 8) = []) (hs : (setAll F.params as (Tr.fillN (.tup []) F.depth F.np)).isSome = true)
    (r : Rk E (start F as []) (Q1 F v)) : Cl E (.fn k []) as H v H := by
  obtain ⟨f, hf⟩ := Option.isSome_iff_exists.1 hs
  have h := Cl.mode1 (E := E) (k := k) (F := F) (as := as) (caps := []) (vs := as) (H := H) (f := f) (v := v) (hh.pr _ _) hh.fs hm (d := 8) (by rw [List.append_nil]; exact hz) hf (by
    have e : start F as [] = ⟨[.code F.body], .norm, f, []⟩ := by unfold start startF; rw [hf]; rfl
    rw [e] at r
    refine r.weak fun e f H hq => ⟨isEx_spec hq.1, ?_⟩
    unfold Q1 at hq
    cases h1 : evRes f H F.results with
    | none => rw [h1] at hq; cases hq.2
    | some v0 => rw [h1] at hq; exact ⟨v0, 8, rfl, hq.2⟩)
  rw [List.append_nil, hb] at h
  exact h
end Go.EV
namespace Go.EV
theorem Rk.fin {E : Env} {s : St} {F : CF} {v v' : AV} (h : s.k.isEmpty = true) (he : isEx s.e = false) (hr : (evRes s.f s.H F.results).bind (frz false s.H 0 8) = some v') (hv : v' = v) : Rk E s (Q1 F v) :=
  Rk.done h ⟨he, by rw [hr, hv]⟩
end Go.EV

/- The machine: frames of which some places are known; heaps of which the end is known. -/
namespace Go.EV

/-- A frame out of its values. -/
def mkT : Nat → Nat → (Pth → AV) → Fr
  | 0, _, _ => .leaf
  | d + 1, n, g => match n with
    | 0 => .leaf
    | n + 1 => .node (mkT d ((n + 1) / 2) fun p => g (.l p)) (g .h) (mkT d (n / 2) fun p => g (.r p))
/-- Has a frame the places that a function has? -/
def shp : Nat → Nat → Fr → Bool
  | 0, _, f => match f with
    | .leaf => true
    | _ => false
  | d + 1, n, f => match n, f with
    | 0, .leaf => true
    | n + 1, .node l _ r => shp d ((n + 1) / 2) l && shp d (n / 2) r
    | _, _ => false
def pbeq : Pth → Pth → Bool
  | .h, .h => true
  | .l p, .l q => pbeq p q
  | .r p, .r q => pbeq p q
  | _, _ => false
theorem pbeq_eq : ∀ p q, pbeq p q = true → p = q
  | .h, .h, _ => rfl
  | .l p, .l q, h => by rw [pbeq_eq p q h]
  | .r p, .r q, h => by rw [pbeq_eq p q h]
  | .h, .l _, h => by cases h
  | .h, .r _, h => by cases h
  | .l _, .h, h => by cases h
  | .l _, .r _, h => by cases h
  | .r _, .h, h => by cases h
  | .r _, .l _, h => by cases h
/-- Some places are told, of the others nothing. -/
def ovr : List (Pth × AV) → (Pth → AV) → Pth → AV
  | [], g, p => g p
  | (q, v) :: r, g, p => bif pbeq q p then v else ovr r g p

theorem mkT_of : ∀ (d n : Nat) (f : Fr), shp d n f = true → f = mkT d n fun p => (f.get p).getD .und
  | 0, n, f, h => by cases f with
    | leaf => rfl
    | node l x r => cases h
  | d + 1, 0, f, h => by cases f with
    | leaf => rfl
    | node l x r => cases h
  | d + 1, n + 1, f, h => by
    cases f with
    | leaf => cases h
    | node l x r =>
      simp only [shp, Bool.and_eq_true] at h
      unfold mkT
      have h1 := mkT_of d ((n + 1) / 2) l h.1
      have h2 := mkT_of d (n / 2) r h.2
      simp only [Tr.get, Option.getD_some]
      rw [← h1, ← h2]
def KnowsL (f : Fr) : List (Pth × AV) → Prop
  | [] => True
  | (p, v) :: r => f.get p = some v ∧ KnowsL f r
/-- What is known of a frame. -/
def Knows (F : CF) (f : Fr) (kn : List (Pth × AV)) : Prop := shp F.depth F.np f = true ∧ KnowsL f kn
theorem ovr_same {f : Fr} : ∀ (kn : List (Pth × AV)), KnowsL f kn → (fun p => (f.get p).getD .und) = ovr kn fun p => (f.get p).getD .und
  | [], _ => rfl
  | (q, v) :: r, h => by
    funext p
    unfold ovr
    cases e : pbeq q p with
    | true =>
      have := pbeq_eq q p e
      subst this
      rw [h.1]; rfl
    | false => exact congrFun (ovr_same r h.2) p
theorem Knows.gen {F : CF} {f : Fr} {kn : List (Pth × AV)} (h : Knows F f kn) : ∃ g, f = mkT F.depth F.np (ovr kn g) := by
  refine ⟨fun p => (f.get p).getD .und, ?_⟩
  rw [← ovr_same kn h.2]
  exact mkT_of _ _ f h.1

theorem Rk.know {E : Env} {Q : Ex → Fr → Hp → Prop} {s : St} (p : Pth) (e b : Bool) (hg : s.f.get p = some (.bool e)) (he : e = b) (r : Rk E (s.put p (.bool b)) Q) : Rk E s Q :=
  Rk.put p _ hg (by rw [he]) r
theorem wrap_succ {i : Nat} (h : i < 9223372036854775807) : IntKind.i64.wrap (Int.ofNat i + 1) = Int.ofNat (i + 1) := by
  simp only [IntKind.wrap, IntKind.bits, IntKind.signed]
  simp
  omega
theorem Rk.inc {E : Env} {Q : Ex → Fr → Hp → Prop} {s : St} (p : Pth) (i : Nat) (hg : s.f.get p = some (.int .i64 (IntKind.i64.wrap (Int.ofNat i + 1)))) (hi : i < 9223372036854775807) (r : Rk E (s.put p (.int .i64 (Int.ofNat (i + 1)))) Q) : Rk E s Q :=
  Rk.put p _ hg (by rw [wrap_succ hi]) r
/-- The state by its parts. -/
theorem Rk.into {E : Env} {Q : Ex → Fr → Hp → Prop} {s : St} (k : List Kt) (H : Hp) (hk : s.k = k) (he : s.e = .norm) (hH : s.H = H) (r : ∀ f, f = s.f → Rk E ⟨k, .norm, f, H⟩ Q) : Rk E s Q := by
  obtain ⟨k', e', f', H'⟩ := s
  subst hk; subst hH; subst he
  exact r f' rfl

/-! ## Steps whose answers are told -/
def nextOp (s : St) : Option CI :=
  match s.k with
  | .ops (o :: _) :: _ => match wanted o.guard s.f with | some true => some o.ins | _ => none
  | .dops (o :: _) _ _ :: _ => match wanted o.guard s.f with | some true => some o.ins | _ => none
  | _ => none
theorem Rk.op {E : Env} {Q : Ex → Fr → Hp → Prop} {s : St} {i : CI} {v : AV} {H1 : Hp} (h : nextOp s = some i) (he : evI s.f s.H i = some (v, H1)) (r : Rk E (after E s v H1) Q) : Rk E s Q := by
  refine Rk.step (s' := after E s v H1) ?_ r
  obtain ⟨k, e, f, H⟩ := s
  cases k with
  | nil => cases h
  | cons x k =>
  cases x with
  | code c => cases h
  | blk i => cases h
  | ops l =>
    cases l with
    | nil => cases h
    | cons o l =>
    simp only [nextOp] at h
    split at h
    · rename_i hw
      cases h
      simp only [step1, hw, he, after]
    · cases h
  | dops l all ts =>
    cases l with
    | nil => cases h
    | cons o l =>
    simp only [nextOp] at h
    split at h
    · rename_i hw
      cases h
      simp only [step1, hw, he, after]
    · cases h
def iaddrOf (s : St) : Option (List (List AV) × Nat × Nat) :=
  match nextOp s with
  | some (.iaddr es x i) => match x.ev s.f with
    | .lst l => match i.ev s.f with | .int _ (.ofNat n) => some (l, n, es) | _ => none
    | _ => none
  | _ => none
/-- x[n] of a slice, told by its elements. -/
theorem Rk.iaddr {E : Env} {Q : Ex → Fr → Hp → Prop} {s : St} {es : Nat} {l : List (List AV)} {n : Nat} {c : List AV} (h : iaddrOf s = some (l, n, es)) (hl : l[n]? = some c) (hc : Nat.beq c.length es = true) (r : Rk E (after E s (.cptr c 0) s.H) Q) : Rk E s Q := by
  unfold iaddrOf at h
  split at h
  · rename_i es' x ix hn
    split at h
    · rename_i l' hx
      split at h
      · rename_i kk n' hi
        cases h
        exact Rk.op hn (by simp only [evI, hx, hi, evIaddr, hl, Nat.eq_of_beq_eq_true hc, if_true, Option.map_some]) r
      · cases h
    · cases h
  · cases h
def allocOf (s : St) : Option (Nat × List AV) := match nextOp s with | some (.alloc ty z) => some (ty, z) | _ => none
/-- A new block behind what is known. -/
theorem Rk.alloc {E : Env} {Q : Ex → Fr → Hp → Prop} {s : St} {ty : Nat} {z : List AV} {H : Hp} {L : List Blk} {n : Nat} (hn : H.length = n) (j : Nat) (h : allocOf s = some (ty, z)) (hH : s.H = H ++ L) (hj : L.length = j) (r : Rk E (after E s (.ptr (n + j) 0) (H ++ (L ++ [.cells 1 ty z]))) Q) : Rk E s Q := by
  unfold allocOf at h
  split at h
  · rename_i ty' z' hn
    cases h
    exact Rk.op hn (by subst hj; subst n; simp only [evI, hH, List.length_append, List.append_assoc]) r
  · cases h
def boxOf (s : St) : Option (Nat × AV) := match nextOp s with | some (.box ty x) => some (ty, x.ev s.f) | _ => none
theorem Rk.box {E : Env} {Q : Ex → Fr → Hp → Prop} {s : St} {ty : Nat} {v : AV} {H : Hp} {L : List Blk} {n : Nat} (hn : H.length = n) (j : Nat) (h : boxOf s = some (ty, v)) (hu : v.isUnd = false) (hH : s.H = H ++ L) (hj : L.length = j) (r : Rk E (after E s (.ptr (n + j) 0) (H ++ (L ++ [.cells 1 ty v.cells]))) Q) : Rk E s Q := by
  unfold boxOf at h
  split at h
  · rename_i ty' x hn
    simp only [Option.some.injEq, Prod.mk.injEq] at h
    obtain ⟨rfl, hx⟩ := h
    exact Rk.op hn (by subst hj; subst n; simp only [evI, hx, hu, hH, List.length_append, List.append_assoc]) r
  · cases h
theorem at_end {H : Hp} {L : List Blk} {j : Nat} : (H ++ L)[H.length + j]? = L[j]? := by
  rw [List.getElem?_append_right (by omega)]
  congr 1; omega
theorem at_elder {H : Hp} {L : List Blk} {b : Nat} {k : Blk} (h : H[b]? = some k) : (H ++ L)[b]? = some k := by
  rw [List.getElem?_append_left (List.getElem?_eq_some_iff.1 h).1]; exact h
def loadOf (s : St) : Option (Nat × Nat × Nat × Bool) :=
  match nextOp s with
  | some (.load n ag x) => match x.ev s.f with | .ptr b o => some (b, o, n, ag) | _ => none
  | _ => none
/-- A load from any block that is told. -/
theorem Rk.loadAt {E : Env} {Q : Ex → Fr → Hp → Prop} {s : St} {n : Nat} {ag : Bool} {H : Hp} {b o st ty : Nat} {cs : List AV} {v : AV} (h : loadOf s = some (b, o, n, ag)) (hH : s.H = H) (hb : H[b]? = some (.cells st ty cs)) (hv : ldc cs o n ag = some v) (r : Rk E (after E s v H) Q) : Rk E s Q := by
  unfold loadOf at h
  split at h
  · rename_i n' ag' x hn
    split at h
    · rename_i b' o' hx
      simp only [Option.some.injEq, Prod.mk.injEq] at h
      obtain ⟨rfl, rfl, rfl, rfl⟩ := h
      exact Rk.op hn (by simp only [evI, hx, evLoad, hH, hb, hv, Option.map_some]) r
    · cases h
  · cases h
theorem Rk.load {E : Env} {Q : Ex → Fr → Hp → Prop} {s : St} {n : Nat} {ag : Bool} {H : Hp} {L : List Blk} {m j o st ty : Nat} {cs : List AV} {v : AV} (hm : H.length = m) (h : loadOf s = some (m + j, o, n, ag)) (hH : s.H = H ++ L) (hb : L[j]? = some (.cells st ty cs)) (hv : ldc cs o n ag = some v) (r : Rk E (after E s v (H ++ L)) Q) : Rk E s Q :=
  Rk.loadAt h hH (by subst hm; rw [at_end]; exact hb) hv r
/-- A load from a block of the elder heap. -/
theorem Rk.loadE {E : Env} {Q : Ex → Fr → Hp → Prop} {s : St} {n : Nat} {ag : Bool} {H : Hp} {L : List Blk} {b o st ty : Nat} {cs : List AV} {v : AV} (hb : H[b]? = some (.cells st ty cs)) (h : loadOf s = some (b, o, n, ag)) (hH : s.H = H ++ L) (hv : ldc cs o n ag = some v) (r : Rk E (after E s v (H ++ L)) Q) : Rk E s Q :=
  Rk.loadAt h hH (at_elder hb) hv r
def storeOf (s : St) : Option (Nat × Nat × Nat × AV) :=
  match nextOp s with
  | some (.store n x y) => match x.ev s.f with | .ptr b o => some (b, o, n, y.ev s.f) | _ => none
  | _ => none
theorem Rk.storeAt {E : Env} {Q : Ex → Fr → Hp → Prop} {s : St} {n : Nat} {H : Hp} {b o ty : Nat} {cs : List AV} {v : AV} (h : storeOf s = some (b, o, n, v)) (hH : s.H = H) (hb : H[b]? = some (.cells 1 ty cs)) (hc : (Nat.beq v.cells.length n && Nat.ble (o + n) cs.length && v.cells.all AV.one && Nat.blt 0 n) = true)
    (r : Rk E (after E s (.tup []) (H.set b (.cells 1 ty (stc cs o v.cells)))) Q) : Rk E s Q := by
  unfold storeOf at h
  split at h
  · rename_i n' x y hn
    split at h
    · rename_i b' o' hx
      simp only [Option.some.injEq, Prod.mk.injEq] at h
      obtain ⟨rfl, rfl, rfl, hy⟩ := h
      refine Rk.op hn ?_ r
      simp only [Bool.and_eq_true, Nat.ble_eq, Nat.blt_eq] at hc
      have h1 := Nat.eq_of_beq_eq_true hc.1.1.1
      have hcc : v.cells.length = n' ∧ o' + n' ≤ cs.length ∧ v.cells.all AV.one = true ∧ 0 < n' := ⟨h1, hc.1.1.2, hc.1.2, hc.2⟩
      simp only [evI, hx, hy, evStore, hH, hb]
      rw [if_pos hcc]
      rfl
    · cases h
  · cases h
theorem Rk.store {E : Env} {Q : Ex → Fr → Hp → Prop} {s : St} {n : Nat} {H : Hp} {L : List Blk} {m j o ty : Nat} {cs : List AV} {v : AV} (hm : H.length = m) (h : storeOf s = some (m + j, o, n, v)) (hH : s.H = H ++ L) (hb : L[j]? = some (.cells 1 ty cs)) (hc : (Nat.beq v.cells.length n && Nat.ble (o + n) cs.length && v.cells.all AV.one && Nat.blt 0 n) = true)
    (r : Rk E (after E s (.tup []) (H ++ L.set j (.cells 1 ty (stc cs o v.cells)))) Q) : Rk E s Q := by
  refine Rk.storeAt h hH (by subst hm; rw [at_end]; exact hb) hc ?_
  have : (H ++ L).set (m + j) (.cells 1 ty (stc cs o v.cells)) = H ++ L.set j (.cells 1 ty (stc cs o v.cells)) := by
    subst hm
    rw [List.set_append_right _ _ (by omega)]
    congr 2; omega
  rw [this]; exact r
/-- A store into a block of the elder heap. -/
theorem Rk.storeE {E : Env} {Q : Ex → Fr → Hp → Prop} {s : St} {n : Nat} {H : Hp} {L : List Blk} {m b o ty : Nat} {cs : List AV} {v : AV} (hm : H.length = m) (hb : H[b]? = some (.cells 1 ty cs)) (cs' : List AV) (h : storeOf s = some (b, o, n, v)) (hH : s.H = H ++ L) (hc : (Nat.beq v.cells.length n && Nat.ble (o + n) cs.length && v.cells.all AV.one && Nat.blt 0 n) = true) (hcs : stc cs o v.cells = cs')
    (r : ∀ H' : Hp, H'.length = m → H' = H.set b (.cells 1 ty cs') → H'[b]? = some (.cells 1 ty cs') → (∀ c, c ≠ b → H'[c]? = H[c]?) → Rk E (after E s (.tup []) (H' ++ L)) Q) : Rk E s Q := by
  have hlt := (List.getElem?_eq_some_iff.1 hb).1
  refine Rk.storeAt h hH (at_elder hb) hc ?_
  rw [hcs, List.set_append_left _ _ hlt]
  exact r _ (by rw [List.length_set]; exact hm) rfl (by rw [List.getElem?_set_self hlt]) (fun c hne => List.getElem?_set_ne (fun e => hne e.symm))
theorem Rk.knowI {E : Env} {Q : Ex → Fr → Hp → Prop} {s : St} (p : Pth) (e z : Int) (hg : s.f.get p = some (.int .i64 e)) (he : e = z) (r : Rk E (s.put p (.int .i64 z)) Q) : Rk E s Q :=
  Rk.put p _ hg (by rw [he]) r
end Go.EV
namespace Go.EV
def isI (p : Pth) (f : Fr) : Bool := match f.get p with | some (.int .i64 _) => true | _ => false
theorem isI_spec {p : Pth} {f : Fr} (h : isI p f = true) : ∃ n, f.get p = some (.int .i64 n) := by
  unfold isI at h
  split at h
  · exact ⟨_, ‹_›⟩
  · cases h
theorem Rk.ex {E : Env} {s : St} {α : Type} {Q : α → Ex → Fr → Hp → Prop} (h : Rk E s (fun e f H => ∃ a, Q a e f H)) : ∃ a, Rk E s (Q a) := by
  obtain ⟨n, e, f, H, hr, a, hq⟩ := h
  exact ⟨a, n, e, f, H, hr, hq⟩
end Go.EV
namespace Go.EV
def IsIs (f : Fr) : List Pth → Prop
  | [] => True
  | p :: r => (∃ n, f.get p = some (.int .i64 n)) ∧ IsIs f r
def isIs (f : Fr) : List Pth → Bool
  | [] => true
  | p :: r => isI p f && isIs f r
theorem isIs_spec {f : Fr} : ∀ {us : List Pth}, isIs f us = true → IsIs f us
  | [], _ => trivial
  | p :: r, h => by
    simp only [isIs, Bool.and_eq_true] at h
    exact ⟨isI_spec h.1, isIs_spec h.2⟩
def getsL (f : Fr) : List (Pth × AV) → List (Option AV)
  | [] => []
  | (p, _) :: r => f.get p :: getsL f r
def valsL : List (Pth × AV) → List (Option AV)
  | [] => []
  | (_, v) :: r => some v :: valsL r
theorem knowsL_of {f : Fr} : ∀ {kn : List (Pth × AV)}, getsL f kn = valsL kn → KnowsL f kn
  | [], _ => trivial
  | (p, v) :: r, h => by
    simp only [getsL, valsL, List.cons.injEq] at h
    exact ⟨h.1, knowsL_of h.2⟩
/-- On from a state of which some places are told. -/
theorem Rk.kn {E : Env} {Q : Ex → Fr → Hp → Prop} {s : St} (F : CF) (k : List Kt) (H : Hp) (kn : List (Pth × AV)) (us : List Pth) (hk : s.k = k) (he : s.e = .norm) (hH : s.H = H) (hs : shp F.depth F.np s.f = true) (hg : getsL s.f kn = valsL kn) (hu : isIs s.f us = true)
    (r : ∀ f, Knows F f kn → IsIs f us → Rk E ⟨k, .norm, f, H⟩ Q) : Rk E s Q := by
  obtain ⟨k', e', f', H'⟩ := s
  simp only at hk he hH
  subst hk; subst hH; subst he
  exact r f' ⟨hs, knowsL_of hg⟩ (isIs_spec hu)
/-- The run's end, some places told. -/
theorem Rk.doneK {E : Env} {Q : Ex → Fr → Hp → Prop} {s : St} (F : CF) (e : Ex) (H : Hp) (kn : List (Pth × AV)) (us : List Pth) (hk : s.k.isEmpty = true) (he : s.e = e) (hH : s.H = H) (hs : shp F.depth F.np s.f = true) (hg : getsL s.f kn = valsL kn) (hu : isIs s.f us = true)
    (r : ∀ f, Knows F f kn → IsIs f us → Q e f H) : Rk E s Q := by
  obtain ⟨k', e', f', H'⟩ := s
  simp only at hk he hH
  subst hH; subst he
  exact Rk.done hk (r f' ⟨hs, knowsL_of hg⟩ (isIs_spec hu))
end Go.EV
namespace Go.EV
def isIv : Option AV → Bool
  | some (.int .i64 _) => true
  | _ => false
def isBv : Option AV → Bool
  | some (.bool _) => true
  | _ => false
theorem Rk.finI {E : Env} {s : St} {F : CF} (h : s.k.isEmpty = true) (he : isEx s.e = false) (hr : isIv ((evRes s.f s.H F.results).bind (frz false s.H 0 8)) = true) : Rk E s (fun e f H => ∃ w : Int, Q1 F (.int .i64 w) e f H) := by
  refine Rk.done h ?_
  unfold isIv at hr
  split at hr
  · rename_i w hw; exact ⟨w, he, hw⟩
  · cases hr
theorem Rk.finB {E : Env} {s : St} {F : CF} (h : s.k.isEmpty = true) (he : isEx s.e = false) (hr : isBv ((evRes s.f s.H F.results).bind (frz false s.H 0 8)) = true) : Rk E s (fun e f H => ∃ w : Bool, Q1 F (.bool w) e f H) := by
  refine Rk.done h ?_
  unfold isBv at hr
  split at hr
  · rename_i w hw; exact ⟨w, he, hw⟩
  · cases hr
theorem Cl.frozenE {E : Env} {k : Nat} {F : CF} (hh : Has E k F) (as : List AV) {α : Type} {g : α → AV} (hm : F.mode = 1) (hz : ∀ H, optL (frz false H 0 8) as = some as) (hb : ∀ H, as.flatMap (frzB H 8) = []) (hs : (setAll F.params as (Tr.fillN (.tup []) F.depth F.np)).isSome = true)
    (r : Rk E (start F as []) (fun e f H => ∃ w, Q1 F (g w) e f H)) : ∃ w, ∀ H, Cl E (.fn k []) as H (g w) H := by
  obtain ⟨w, hw⟩ := Rk.ex r
  exact ⟨w, fun H => Cl.frozen hh as hm (hz H) (hb H) hs hw⟩
end Go.EV
namespace Go.EV
theorem Rk.callH {E : Env} {Q : Ex → Fr → Hp → Prop} {s : St} {g : AV} {as : List AV} {v : AV} {H H1 : Hp} (h : callOf s = some (g, as)) (hH : s.H = H) (hc : Cl E g as H v H1) (r : Rk E (after E s v H1) Q) : Rk E s Q :=
  Rk.call h (by rw [hH]; exact hc) r
end Go.EV
namespace Go.EV
def bsliceOf (s : St) : Option (Nat × Nat × Nat × List AV) :=
  match nextOp s with
  | some (.bslice ty es z len ps) => (evBuildS s.f es ps (rep z len)).map fun cs => (ty, es, len, cs)
  | _ => none
/-- A slice of its own, behind what is known. -/
theorem Rk.bslice {E : Env} {Q : Ex → Fr → Hp → Prop} {s : St} {ty es len : Nat} {cs : List AV} {H : Hp} {L : List Blk} {n : Nat} (hn : H.length = n) (j : Nat) (h : bsliceOf s = some (ty, es, len + 1, cs)) (hH : s.H = H ++ L) (hj : L.length = j) (r : Rk E (after E s (.sl es (n + j) 0 (len + 1)) (H ++ (L ++ [.cells 1 ty cs]))) Q) : Rk E s Q := by
  unfold bsliceOf at h
  split at h
  · rename_i ty' es' z' len' ps hn
    obtain ⟨c, hc, h⟩ := Option.map_eq_some_iff.1 h
    simp only [Prod.mk.injEq] at h
    obtain ⟨rfl, rfl, rfl, rfl⟩ := h
    exact Rk.op hn (by subst hj; subst n; simp only [evI, hc, Option.map_some, Nat.succ_ne_zero, if_false, hH, List.length_append, List.append_assoc]) r
  · cases h
def appOf (s : St) : Option (Nat × Nat × AV × AV) := match nextOp s with | some (.append ty es a x) => some (ty, es, a.ev s.f, x.ev s.f) | _ => none
theorem elems_end {H : Hp} {L : List Blk} {n j es m st ty : Nat} {cs : List AV} {new : List (List AV)} (hn : H.length = n) (hb : L[j]? = some (.cells st ty cs)) (hm : Nat.ble (m * es) cs.length = true) (hnew : chunks es cs 0 m = new) : elemsOf es (H ++ L) (.sl es (n + j) 0 m) = some new := by
  subst hn
  simp only [elemsOf, true_or, if_true, at_end, hb, Nat.zero_add, if_pos (Nat.le_of_ble_eq_true hm), hnew]
/-- Append to a nil slice. -/
theorem Rk.appendN {E : Env} {Q : Ex → Fr → Hp → Prop} {s : St} {ty es m st ty' : Nat} {cs cs' : List AV} {new : List (List AV)} {H : Hp} {L : List Blk} {n : Nat} (hn : H.length = n) (j i : Nat) (h : appOf s = some (ty, es, .nils, .sl es (n + i) 0 m)) (hH : s.H = H ++ L) (hb : L[i]? = some (.cells st ty' cs)) (hm : Nat.ble (m * es) cs.length = true) (hnew : chunks es cs 0 m = new)
    (hc : (!new.isEmpty && Nat.ble new.length mxLen && new.flatten.all AV.one) = true) (hcs : new.flatten = cs') (hj : L.length = j) (r : Rk E (after E s (.sl es (n + j) 0 new.length) (H ++ (L ++ [.cells 1 ty cs']))) Q) : Rk E s Q := by
  unfold appOf at h
  split at h
  · rename_i ty'' es'' a x hop
    simp only [Option.some.injEq, Prod.mk.injEq] at h
    obtain ⟨rfl, rfl, ha, hx⟩ := h
    refine Rk.op hop ?_ r
    simp only [Bool.and_eq_true, Bool.not_eq_true', Nat.ble_eq] at hc
    simp only [evI, ha, hx, hH, evAppend, elems_end hn hb hm hnew]
    rw [hc.1.1]
    simp only [Bool.false_eq_true, if_false, if_pos (And.intro hc.1.2 hc.2)]
    subst hj; subst n
    rw [hcs, List.length_append, List.append_assoc]
  · cases h
/-- Append to a slice that ends its block, in the elder heap. -/
theorem Rk.appendE {E : Env} {Q : Ex → Fr → Hp → Prop} {s : St} {ty es m st ty' b len : Nat} {cs cs' cs0 : List AV} {new : List (List AV)} {H : Hp} {L : List Blk} {n : Nat} (hn : H.length = n) (h0 : H[b]? = some (.cells 1 ty cs0)) (hl0 : cs0.length = len * es) (hmx : len + new.length ≤ mxLen) (j i : Nat) (h : appOf s = some (ty, es, .sl es b 0 len, .sl es (n + i) 0 m)) (hH : s.H = H ++ L) (hb : L[i]? = some (.cells st ty' cs)) (hm : Nat.ble (m * es) cs.length = true) (hnew : chunks es cs 0 m = new)
    (hc : (!new.isEmpty && new.flatten.all AV.one) = true) (hcs : new.flatten = cs') (hj : L.length = j) (r : ∀ H' : Hp, H'.length = n → (∀ c, c ≠ b → H'[c]? = H[c]?) → Rk E (after E s (.sl es (n + j) 0 (len + new.length)) (H' ++ (L ++ [.cells 1 ty (cs0 ++ cs')]))) Q) : Rk E s Q := by
  unfold appOf at h
  split at h
  · rename_i ty'' es'' a x hop
    simp only [Option.some.injEq, Prod.mk.injEq] at h
    obtain ⟨rfl, rfl, ha, hx⟩ := h
    have hlt := (List.getElem?_eq_some_iff.1 h0).1
    refine Rk.op hop ?_ (r (H.set b .dead) (by rw [List.length_set]; exact hn) fun c hne => List.getElem?_set_ne fun e => hne e.symm)
    simp only [Bool.and_eq_true, Bool.not_eq_true'] at hc
    simp only [evI, ha, hx, hH, evAppend, elems_end hn hb hm hnew, if_true]
    rw [hc.1]
    simp only [Bool.false_eq_true, if_false, if_pos (And.intro hmx hc.2), at_elder h0]
    rw [if_pos ⟨trivial, by omega, Or.inl trivial⟩]
    subst hj; subst n
    rw [hcs, List.length_append, List.set_append_left _ _ hlt, List.append_assoc]
    simp only [List.drop_zero]
    rw [List.take_of_length_le (by omega)]
  · cases h
end Go.EV

/- The machine: ranges over functions. -/
namespace Go.EV
/-- A range over a function that goes to its end. -/
theorem Rk.rng {E : Env} {Q : Ex → Fr → Hp → Prop} {g : CX} {ps : List Pth} {a b : CC} {k : List Kt} {f : Fr} {H : Hp} {kk : Nat} {cs : List AV} {v : AV} {H' : Hp} {f' : Fr} {ps' : List Pth} {a' b' : CC}
    (hg : g.ev f = .fn kk cs) (hc : Cl E (.fn kk cs) [.yld H.length] (H ++ [.loop 0 .norm f ps a b]) v H') (hl : H'[H.length]? = some (.loop 0 .norm f' ps' a' b')) (r : Rk E ⟨k, .norm, f, H'.set H.length .dead⟩ Q) : Rk E ⟨.code (.rng g ps a b) :: k, .norm, f, H⟩ Q := by
  obtain ⟨m, hm⟩ := hc
  obtain ⟨n, e', f2, H2, hr, hq⟩ := r
  refine ⟨max m n + 1, e', f2, H2, ?_, hq⟩
  have hm := ev_more (Nat.le_max_left m n) hm (fun e => by cases e)
  have hr := runK_more (show n ≤ max m n + 1 by omega) hr
  rw [runK_mk (e := .norm) (f1 := f) (H1 := H'.set H.length .dead) (by rw [ev_succ]; simp only [evStep, hg, hm, hl])]
  exact hr
/-- A yield whose body goes on. -/
theorem Cl.yld {E : Env} {l : Nat} {H : Hp} {e0 : Ex} {f0 f1 : Fr} {ps : List Pth} {a b : CC} {args : List AV} {R : Hp → Prop} (hl : H[l]? = some (.loop 0 e0 f0 ps a b)) (hs : setAll ps args f0 = some f1)
    (r : Rk E ⟨[.code a], .norm, f1, H⟩ fun e f2 H1 => e = .norm ∧ ∃ e3 f3 ps3 a3 b3, H1[l]? = some (.loop 0 e3 f3 ps3 a3 b3) ∧ Rk E ⟨[.code b3], .norm, f2, H1.set l (.loop 1 .norm f3 ps3 a3 b3)⟩ fun e _ H2 => e = .norm ∧ ∃ e4 f4 ps4 a4 b4, H2[l]? = some (.loop 1 e4 f4 ps4 a4 b4) ∧ R (H2.set l (.loop 0 .norm f4 ps4 a4 b4))) :
    ∃ H', Cl E (.yld l) args H (.bool true) H' ∧ R H' := by
  obtain ⟨n, e, f2, H1, hr, rfl, e3, f3, ps3, a3, b3, h3, n2, e2, f5, H2, hr2, rfl, e4, f4, ps4, a4, b4, h4, hR⟩ := r
  refine ⟨_, ⟨max n n2 + 1, ?_⟩, hR⟩
  obtain ⟨e6, f6, H6, q1, q2⟩ := runK_code hr
  simp only [runK, Res.ok.injEq] at q2
  obtain ⟨rfl, rfl, rfl⟩ := q2
  obtain ⟨e7, f7, H7, q3, q4⟩ := runK_code hr2
  simp only [runK, Res.ok.injEq] at q4
  obtain ⟨rfl, rfl, rfl⟩ := q4
  have q1 := ev_more (Nat.le_max_left n n2) q1 (fun e => by cases e)
  have q3 := ev_more (Nat.le_max_right n n2) q3 (fun e => by cases e)
  rw [ev_succ]
  simp only [evStep, hl, hs, q1, h3, q3, h4]
/-- A step whose answer is told by other words. -/
theorem Rk.opt {E : Env} {Q : Ex → Fr → Hp → Prop} {s : St} (i : CI) (t : Option (AV × Hp)) {v : AV} {H1 : Hp} (h : nextOp s = some i) (he : evI s.f s.H i = t) (ht : t = some (v, H1)) (r : Rk E (after E s v H1) Q) : Rk E s Q :=
  Rk.op h (he.trans ht) r
end Go.EV
