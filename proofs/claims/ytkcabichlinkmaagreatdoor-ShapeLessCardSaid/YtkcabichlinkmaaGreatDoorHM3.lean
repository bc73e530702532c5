/- Lengths, cuts, literals of structs, places in arrays. -/
import Derived.Test.YtkcabichlinkmaaGreatDoorHM2
import Derived.Laws.Tables
import Derived.Great.BuildSlice
import Derived.Deep.Upon
import Derived.Laws.BytesString
namespace Go.EV
open Go.RowKit
variable {P : Program} {Fb : Fz}

theorem natOf_rel {m : Mp} {F : Fz} {v : AV} {v' : Value} {n : Nat} (h : VR m F v v') (hn : natOf v = some n) : ∃ k, v' = .int k (Int.ofNat n) := by
  cases h with
  | int k i =>
    cases i with
    | ofNat j => cases hn; exact ⟨k, rfl⟩
    | negSucc j => cases hn
  | _ => cases hn
theorem optOf_rel {m : Mp} {F : Fz} {f : Fr} {a : Act} (hf : FRel m F f a.tmps) {x : Option Operand} {cx : Option CX} {d n : Nat} (hx : compO x = some cx) (h : optOf f d cx = some n) :
    (x = none ∧ cx = none ∧ n = d) ∨ ∃ y k, x = some y ∧ a.eval y = .int k (Int.ofNat n) := by
  cases x with
  | none =>
    cases hx
    simp only [optOf, Option.some.injEq] at h
    exact .inl ⟨rfl, rfl, h.symm⟩
  | some y =>
    obtain ⟨c, h1, rfl⟩ := map_some hx
    simp only [optOf] at h
    obtain ⟨k, hk⟩ := natOf_rel (compX_rel hf h1) h
    exact .inr ⟨y, k, rfl, hk⟩
theorem run_sliceBound (k : IntKind) (n y : Nat) (code : BoundsCode) (w : World) (h : n ≤ y) : (Instr.sliceBound (.int k (Int.ofNat n)) y code).run P w = .ok n w := by
  have h1 : (0 : Int) ≤ (n : Int) ∧ (n : Int) ≤ (y : Int) := ⟨by omega, by omega⟩
  simp [Instr.sliceBound, asIntOf, h]
/-- The bounds, when they lie well. -/
theorem run_sliceBounds {m : Mp} {F : Fz} {f : Fr} {a : Act} (hf : FRel m F f a.tmps) (isS : Bool) (len cap lo hi : Nat) (w : World) {xl xh : Option Operand} {cl ch : Option CX} (hl : compO xl = some cl) (hh : compO xh = some ch)
    (e1 : optOf f 0 cl = some lo) (e2 : optOf f len ch = some hi) (h1 : lo ≤ hi) (h2 : hi ≤ len) (h3 : len ≤ cap) :
    (Instr.sliceBounds isS len cap (xl.map a.eval) (xh.map a.eval) none).run P w = .ok (lo, hi, cap) w := by
  rcases optOf_rel hf hl e1 with ⟨rfl, _, rfl⟩ | ⟨y, k, rfl, hk⟩ <;> rcases optOf_rel hf hh e2 with ⟨rfl, _, rfl⟩ | ⟨y', k', rfl, hk'⟩
  · simp [Instr.sliceBounds]
  · have := run_sliceBound (P := P) k' hi cap (if isS then .sliceAcap else .sliceAlen) w (by omega)
    simp only [Option.map_some, Option.map_none, hk', Instr.sliceBounds, Sem.run_bind, Result.andThen, this, Sem.run_pure]
  · have := run_sliceBound (P := P) k lo hi (if (none : Option Value).isSome then .slice3C else .sliceB) w h1
    simp only [Option.map_some, Option.map_none, hk, Instr.sliceBounds, Sem.run_bind, Result.andThen, this, Sem.run_pure]
  · have := run_sliceBound (P := P) k lo hi (if (none : Option Value).isSome then .slice3C else .sliceB) w h1
    have h5 := run_sliceBound (P := P) k' hi cap (if isS then .sliceAcap else .sliceAlen) w (by omega)
    simp only [Option.map_some, hk, hk', Instr.sliceBounds, Sem.run_bind, Result.andThen, this, h5, Sem.run_pure]
theorem run_sliceBounds3 {m : Mp} {F : Fz} {f : Fr} {a : Act} (hf : FRel m F f a.tmps) (isS : Bool) (len cap lo hi mx : Nat) (w : World) {xl xh : Option Operand} {cl ch : Option CX} {xm : Operand} {km : IntKind} (hl : compO xl = some cl) (hh : compO xh = some ch)
    (e1 : optOf f 0 cl = some lo) (e2 : optOf f len ch = some hi) (hs : ch.isSome = true) (em : a.eval xm = .int km (Int.ofNat mx)) (h1 : lo ≤ hi) (h2 : hi ≤ mx) (h3 : mx ≤ cap) :
    (Instr.sliceBounds isS len cap (xl.map a.eval) (xh.map a.eval) ((some xm).map a.eval)).run P w = .ok (lo, hi, mx) w := by
  have g0 := run_sliceBound (P := P) km mx cap (if isS then .slice3Acap else .slice3Alen) w h3
  rcases optOf_rel hf hl e1 with ⟨rfl, _, rfl⟩ | ⟨y, k, rfl, hk⟩ <;> rcases optOf_rel hf hh e2 with ⟨_, rfl, _⟩ | ⟨y', k', rfl, hk'⟩
  · cases hs
  · have := run_sliceBound (P := P) k' hi mx .slice3B w h2
    simp only [Option.map_some, Option.map_none, hk', em, Instr.sliceBounds, Sem.run_bind, Result.andThen, this, g0, Sem.run_pure]
  · cases hs
  · have := run_sliceBound (P := P) k lo hi (if (some (Value.int km (Int.ofNat mx))).isSome then .slice3C else .sliceB) w h1
    have h5 := run_sliceBound (P := P) k' hi mx .slice3B w h2
    simp only [Option.map_some, hk, hk', em, Instr.sliceBounds, Sem.run_bind, Result.andThen, this, h5, g0, Sem.run_pure]

theorem add_mul {A : Addr} {k : Nat} (h : A.spot = none) : A.add k = ⟨A.block, A.off + k, none⟩ := by
  unfold Addr.add
  split
  · rename_i e0; rw [e0]; cases A; simp_all
  · rfl

theorem VR.lst0 {m : Mp} {F : Fz} (a : Addr) (cap : Nat) : VR m F (.lst []) (.slice (some a) 0 cap) :=
  VR.lst 0 [] a cap (fun _ _ => undef) (fun c h => by cases h) (fun h => absurd rfl h) (fun c h => by cases h) (Nat.zero_le _) (fun i c j v e => by simp at e) (fun i c j v e => by simp at e)

theorem headOk_spec {es es' : Nat} {l : List (List AV)} (h : headOk es l = true) (he : ∀ c, c ∈ l → c.length = es') : l = [] ∨ es' = es := by
  cases l with
  | nil => exact .inl rfl
  | cons c r => exact .inr ((he c (List.mem_cons_self ..)).symm.trans (Nat.eq_of_beq_eq_true h))

/-- The cut slice. -/
theorem slice_rel {m : Mp} {F : Fz} {H : Hp} {x v : AV} {A : Option Addr} {len cap es lo hi : Nat} {mx : Option Nat} {n : Nat} (h : VR m F x (.slice A len cap)) (hn : evLen H x = some n) (hes : 0 < es) (hv : evSlice es x lo hi mx = some v) :
    len = n ∧ lo ≤ hi ∧ len ≤ cap ∧ (mx = none → hi ≤ len) ∧ (∀ k, mx = some k → hi ≤ k ∧ k ≤ cap) ∧ VR m F v (.slice (if mx.getD cap = lo then A else A.map (·.add (lo * es))) (hi - lo) (mx.getD cap - lo)) := by
  cases h with
  | nils =>
    cases hn
    simp only [evSlice] at hv
    split at hv
    · rename_i hc
      obtain ⟨rfl, rfl, hm⟩ := hc
      cases hv
      rcases hm with rfl | rfl
      · exact ⟨rfl, Nat.le_refl _, Nat.le_refl _, fun _ => Nat.le_refl _, (fun k e => (by cases e)), by simpa using .nils⟩
      · exact ⟨rfl, Nat.le_refl _, Nat.le_refl _, (fun e => (by cases e)), (fun k e => (by cases e; exact ⟨Nat.le_refl _, Nat.le_refl _⟩)), by simpa using .nils⟩
    · cases hv
  | emp a =>
    cases hn
    simp only [evSlice] at hv
    split at hv
    · rename_i hc
      obtain ⟨rfl, rfl, hm⟩ := hc
      cases hv
      rcases hm with rfl | rfl
      · exact ⟨rfl, Nat.le_refl _, Nat.le_refl _, fun _ => Nat.le_refl _, (fun k e => (by cases e)), by simpa using .emp a⟩
      · exact ⟨rfl, Nat.le_refl _, Nat.le_refl _, (fun e => (by cases e)), (fun k e => (by cases e; exact ⟨Nat.le_refl _, Nat.le_refl _⟩)), by simpa using .emp a⟩
    · cases hv
  | lst es' l a cap g hq hs he hc h1 h2 =>
    cases hn
    simp only [evSlice] at hv
    split at hv
    · rename_i hcc
      obtain ⟨hk0, c1, c2⟩ := hcc
      have hes' : lo * es = lo * es' := by
        rcases headOk_spec hk0 he with h | h
        · subst h
          have : lo = 0 := by simp at c2; omega
          subst this; simp
        · rw [h]
      rw [hes']
      have main : ∀ k, hi ≤ k → k ≤ cap → VR m F (.lst ((l.drop lo).take (hi - lo))) (.slice (if k = lo then some a else (some a).map (·.add (lo * es'))) (hi - lo) (k - lo)) := by
        intro k hk1 hk2
        have hlen : ((l.drop lo).take (hi - lo)).length = hi - lo := by simp; omega
        have hgen : ∀ A' : Addr, ((l.drop lo).take (hi - lo) ≠ [] → A' = ⟨a.block, a.off + lo * es', none⟩) → VR m F (.lst ((l.drop lo).take (hi - lo))) (.slice (some A') (hi - lo) (k - lo)) := by
          intro A' hA
          have := VR.lst (m := m) (F := F) es' ((l.drop lo).take (hi - lo)) A' (k - lo) (fun i j => g (lo + i) j) (fun c hc => hq c (List.mem_of_mem_drop (List.mem_of_mem_take hc))) (fun hne => by rw [hA hne]) (fun c hc => he c (List.mem_of_mem_drop (List.mem_of_mem_take hc))) (by rw [hlen]; omega)
            (fun i c j v e1 e2 => by
              have hi' : i < hi - lo := by rw [← hlen]; exact (List.getElem?_eq_some_iff.1 e1).1
              have hA' := hA (fun e => by rw [e] at e1; simp at e1)
              rw [List.getElem?_take_of_lt hi', List.getElem?_drop] at e1
              rw [hA']
              have := h1 (lo + i) c j v e1 e2
              rw [Nat.add_mul] at this
              show fcell F a.block (a.off + lo * es' + (i * es' + j)) = _
              rw [← this]; congr 1; omega)
            (fun i c j v e1 e2 => by
              have hi' : i < hi - lo := by rw [← hlen]; exact (List.getElem?_eq_some_iff.1 e1).1
              rw [List.getElem?_take_of_lt hi', List.getElem?_drop] at e1
              exact h2 (lo + i) c j v e1 e2)
          rwa [hlen] at this
        by_cases ek : k = lo
        · rw [if_pos ek]
          refine hgen a (fun hne => ?_)
          have : (l.drop lo).take (hi - lo) = [] := List.eq_nil_of_length_eq_zero (by rw [hlen]; omega)
          exact absurd this hne
        · rw [if_neg ek]
          refine hgen _ (fun hne => ?_)
          exact add_mul (hs (fun e => by subst e; simp at hne))
      cases mx with
      | none =>
        simp only at hv
        cases hv
        exact ⟨rfl, c1, hc, fun _ => c2, (fun k e => (by cases e)), main cap (by omega) (Nat.le_refl _)⟩
      | some k =>
        simp only at hv
        split at hv
        · rename_i hk
          obtain ⟨rfl, rfl⟩ := hk
          cases hv
          refine ⟨rfl, c1, hc, (fun e => (by cases e)), (fun q e => (by cases e; exact ⟨Nat.le_refl _, by omega⟩)), ?_⟩
          simpa using VR.lst0 a 0
        · split at hv
          · rename_i hk
            cases hv
            exact ⟨rfl, c1, hc, (fun e => (by cases e)), (fun q e => (by cases e; exact ⟨hk.1, by omega⟩)), main k hk.1 (by omega)⟩
          · cases hv
    · cases hv
  | nlst =>
    cases hn
    simp only [evSlice, List.length_nil] at hv
    split at hv
    · rename_i hcc
      obtain ⟨_, c1, c2⟩ := hcc
      obtain rfl : hi = 0 := by omega
      obtain rfl : lo = 0 := by omega
      cases mx with
      | none =>
        cases hv
        exact ⟨rfl, Nat.le_refl _, Nat.le_refl _, fun _ => Nat.le_refl _, (fun k e => (by cases e)), by simpa using .nlst⟩
      | some k =>
        simp only at hv
        split at hv
        · rename_i hk
          obtain ⟨rfl, _⟩ := hk
          cases hv
          exact ⟨rfl, Nat.le_refl _, Nat.le_refl _, (fun e => (by cases e)), (fun q e => (by cases e; exact ⟨Nat.le_refl _, Nat.le_refl _⟩)), by simpa using .nlst⟩
        · split at hv
          · rename_i hk2 hk
            obtain rfl : k = 0 := by omega
            exact absurd ⟨rfl, trivial⟩ hk2
          · cases hv
    · cases hv
  | sl es' b o len p a cap hm hl ha =>
    cases hn
    simp only [evSlice] at hv
    split at hv
    · rename_i hcc
      obtain ⟨hes0, c1, c2⟩ := hcc
      have hes' : lo * es = lo * es' := by
        rcases hes0 with h | h
        · rw [h]
        · obtain rfl : lo = 0 := by omega
          simp
      rw [hes']
      have main : ∀ k, hi ≤ k → k ≤ cap → VR m F (.sl es' b (o + lo * es') (hi - lo)) (.slice (if k = lo then some a else (some a).map (·.add (lo * es'))) (hi - lo) (k - lo)) := by
        intro k hk1 hk2
        by_cases ek : k = lo
        · rw [if_pos ek]
          exact VR.sl es' b _ _ p a _ hm (by omega) (fun hne => by omega)
        · rw [if_neg ek]
          refine VR.sl es' b _ _ p _ _ hm (by omega) (fun hne => ?_)
          obtain ⟨rfl, hz⟩ := ha (by omega)
          refine ⟨(add_mul (A := ⟨p.c, p.d + o, none⟩) rfl).trans (by simp [Nat.add_assoc]), ?_⟩
          have h3 : lo * es' + (k - lo) * es' = k * es' := by rw [← Nat.add_mul]; congr 1; omega
          have h4 : k * es' ≤ cap * es' := Nat.mul_le_mul_right _ hk2
          omega
      cases mx with
      | none =>
        simp only at hv
        cases hv
        exact ⟨rfl, c1, hl, fun _ => c2, (fun k e => (by cases e)), main cap (by omega) (Nat.le_refl _)⟩
      | some k =>
        simp only at hv
        split at hv
        · rename_i hk
          obtain ⟨rfl, rfl⟩ := hk
          cases hv
          refine ⟨rfl, c1, hl, (fun e => (by cases e)), (fun q e => (by cases e; exact ⟨Nat.le_refl _, by omega⟩)), ?_⟩
          simpa using .emp a
        · split at hv
          · rename_i hk
            cases hv
            exact ⟨rfl, c1, hl, (fun e => (by cases e)), (fun q e => (by cases e; exact ⟨hk.1, by omega⟩)), main k hk.1 (by omega)⟩
          · cases hv
    · cases hv
  | und => cases hn

theorem evSlice_shape {m : Mp} {F : Fz} {x v : AV} {x' : Value} {es lo hi : Nat} {mx : Option Nat} (h : VR m F x x') (hv : evSlice es x lo hi mx = some v) : ∃ A len cap, x' = .slice A len cap := by
  cases h <;> first | exact ⟨_, _, _, rfl⟩ | cases hv

theorem sim_slice {o : Oper} {t e : TypeId} {x : Operand} {lo hi mx : Option Operand} {cx : CX} {cl ch cm : Option CX} {es : Nat} (ho : o.op = .slice t x lo hi mx) (ht : P.underlying t = some (.slice e)) (hs : sizeOf? P e = some es) (hes : 0 < es) (hx : compX x = some cx)
    (hl : compO lo = some cl) (hh : compO hi = some ch) (hm : compO mx = some cm) (hb : cm.isNone = true ∨ ch.isSome = true) : SimO P Fb o (.slice es cx cl ch cm) := by
  intro m F f a H w v H' hf hw h
  have h1 := compX_rel hf hx
  simp only [evI] at h
  generalize cx.ev f = cv at h1 h
  generalize hax : a.eval x = vx at h1
  split at h
  · rename_i n hn
    split at h
    · rename_i la ha e1 e2
      have fin : ∀ (mx' : Option Nat), evSlice es cv la ha mx' = some v → H = H' →
          (∀ A len cap, len = n → la ≤ ha → len ≤ cap → (mx' = none → ha ≤ len) → (∀ k, mx' = some k → ha ≤ k ∧ k ≤ cap) → (Instr.sliceBounds true len cap (lo.map a.eval) (hi.map a.eval) (mx.map a.eval)).run P w = .ok (la, ha, mx'.getD cap) w ∧ A = (A : Option Addr)) →
          ∃ m' F' nx w', (execOp a.eval o).run P w = .ok nx w' ∧ NxR m' F' v nx ∧ WR P Fb m' F' H' w' ∧ Gs m F H w m' F' H' w' := by
        rintro mx' hv rfl hrun
        obtain ⟨A, len, cap, rfl⟩ := evSlice_shape h1 hv
        obtain ⟨r1, r2, r3, r4, r5, r6⟩ := slice_rel h1 hn hes hv
        obtain ⟨hr, _⟩ := hrun A len cap r1 r2 r3 r4 r5
        have := sim_pure (P := P) (s := Instr.sliceAt t (.slice A len cap) (lo.map a.eval) (hi.map a.eval) (mx.map a.eval)) hw (by
          simp [Instr.sliceAt, Instr.slice, Sem.run_bind, run_underlying ht, Result.andThen, hr, run_size hs]) r6
        simpa [execOp, ho, hax] using this
      split at h
      · obtain ⟨u, hu, hv⟩ := map_some h
        cases hv
        refine fin none hu rfl (fun A len cap q1 q2 q3 q4 q5 => ⟨?_, rfl⟩)
        cases mx with
        | some y => obtain ⟨c, _, hc⟩ := map_some hm; cases hc
        | none =>
          subst q1
          exact run_sliceBounds hf true _ cap la ha w hl hh e1 e2 q2 (q4 rfl) q3
      · rename_i cmx
        split at h
        · rename_i k hk
          obtain ⟨u, hu, hv⟩ := map_some h
          cases hv
          refine fin (some k) hu rfl (fun A len cap q1 q2 q3 q4 q5 => ⟨?_, rfl⟩)
          cases mx with
          | none => cases hm
          | some y =>
            obtain ⟨c, hc1, hc⟩ := map_some hm
            cases hc
            obtain ⟨km, hkm⟩ := natOf_rel (compX_rel hf hc1) hk
            subst q1
            rcases hb with hb | hb
            · cases hb
            exact run_sliceBounds3 hf true _ cap la ha k w hl hh e1 e2 hb hkm q2 (q5 k rfl).1 (q5 k rfl).2
        · cases h
    · cases h
  · cases h
end Go.EV

/- Lengths, single characters, cut strings, extremes. -/
namespace Go.EV
open Go.RowKit
variable {P : Program} {Fb : Fz}

theorem exec_builtin {o : Oper} {c : Call} {b : Builtin} {a : Act} (ho : o.op = .call c) (hb : c.callee = .builtin b) : execOp a.eval o = builtin b c.argTypes o.type (c.args.map fun | .const _ => true | _ => false) (c.args.map a.eval) := by
  simp only [execOp, ho, resolve, hb]
  rfl
theorem toList_one {α : Type} {a : Array α} {x : α} (h : a.toList = [x]) : a = #[x] := by
  apply Array.ext'; simpa using h
theorem toList_two {α : Type} {a : Array α} {x y : α} (h : a.toList = [x, y]) : a = #[x, y] := by
  apply Array.ext'; simpa using h
theorem str_size {s : List Nat} {b : ByteArray} (h : b.data.toList.map UInt8.toNat = s) : b.size = s.length := by
  rw [← h, List.length_map, Array.length_toList]; rfl

theorem sim_len {o : Oper} {c : Call} {x : Operand} {t : TypeId} {cx : CX} {k : Nat} (ho : o.op = .call c) (hb : c.callee = .builtin .len) (hargs : c.args.toList = [x]) (htys : c.argTypes.toList = [t]) (hx : compX x = some cx)
    (hk : (k = 0 ∧ P.underlying t = some .string) ∨ (k = 1 ∧ ∃ e, P.underlying t = some (.slice e)) ∨ (k = 2 ∧ ∃ e d, P.underlying t = some (.map e d))) : SimO P Fb o (.len k cx) := by
  intro m F f a H w v H' hf hw h
  have h1 := compX_rel hf hx
  simp only [evI] at h
  generalize cx.ev f = cv at h1 h
  generalize hax : a.eval x = vx at h1
  split at h
  · rename_i hok
    obtain ⟨n, hn, hv⟩ := map_some h
    cases hv
    have fin : (Builtin.len_ #[t] o.type #[vx]).run P w = .ok (.int .i64 n) w → ∃ m' F' nx w', (execOp a.eval o).run P w = .ok nx w' ∧ NxR m' F' (.int .i64 n) nx ∧ WR P Fb m' F' H w' ∧ Gs m F H w m' F' H w' := by
      intro hr
      have := sim_pure (P := P) hw hr (.int .i64 n)
      rw [exec_builtin ho hb, toList_one htys, toList_one hargs]
      simpa [builtin, hax] using this
    rcases hk with ⟨rfl, ht⟩ | ⟨rfl, e, ht⟩ | ⟨rfl, e, d, ht⟩
    · cases h1 <;> first | (cases hok; done) | skip
      rename_i s b hs
      cases hn
      exact fin (by simp [Builtin.len_, Sem.run_bind, run_underlying ht, Result.andThen, str_size hs, goInt])
    · cases h1 <;> first | (cases hok; done) | skip
      all_goals
        cases hn
        exact fin (by simp [Builtin.len_, Sem.run_bind, run_underlying ht, Result.andThen, goInt])
    · cases h1 <;> first | (cases hok; done) | skip
      · cases hn
        exact fin (by simp [Builtin.len_, Sem.run_bind, run_underlying ht, Result.andThen, goInt])
      · rename_i b p hm
        simp only [evLen] at hn
        split at hn
        · rename_i es hb
          cases hn
          obtain ⟨k', hk', hbr⟩ := hw.blk b p hm
          rw [hb] at hk'; cases hk'
          obtain ⟨ents, ck, hh, hl, _⟩ := hbr
          have hg : (getObj p.c).run P w = .ok (.map ents ck) w := by simp [getObj, Sem.run, hh]
          exact fin (by simp [Builtin.len_, Sem.run_bind, run_underlying ht, Result.andThen, goInt, hg, hl])
        · cases hn
  · cases h

theorem sim_minmax {o : Oper} {c : Call} {x y : Operand} {cx cy : CX} {mx : Bool} (ho : o.op = .call c) (hb : c.callee = .builtin (if mx then .max else .min)) (hargs : c.args.toList = [x, y]) (hx : compX x = some cx) (hy : compX y = some cy) : SimO P Fb o (.minmax mx cx cy) := by
  intro m F f a H w v H' hf hw h
  have h1 := compX_rel hf hx
  have h2 := compX_rel hf hy
  simp only [evI] at h
  generalize cx.ev f = cv at h1 h
  generalize hax : a.eval x = vx at h1
  generalize cy.ev f = cu at h2 h
  generalize hay : a.eval y = vy at h2
  cases h1 <;> first | (cases h; done) | skip
  cases h2 <;> first | (cases h; done) | skip
  rename_i k n k' n'
  simp only [Option.some.injEq, Prod.mk.injEq] at h
  obtain ⟨rfl, rfl⟩ := h
  have := sim_pure (P := P) (s := if mx then Builtin.max_ c.argTypes o.type #[.int k n, .int k' n'] else Builtin.min_ c.argTypes o.type #[.int k n, .int k' n']) hw (by
    cases mx <;> simp [Builtin.max_, Builtin.min_, Builtin.max2, Builtin.min2]) (.int k (if mx then (if n' > n then n' else n) else (if n' < n then n' else n)))
  rw [exec_builtin ho hb, toList_two hargs]
  cases mx <;> simpa [builtin, hax, hay] using this

theorem sim_slices {o : Oper} {t : TypeId} {x : Operand} {lo hi : Option Operand} {cx : CX} {cl ch : Option CX} (ho : o.op = .slice t x lo hi none) (ht : P.underlying t = some .string) (hx : compX x = some cx)
    (hl : compO lo = some cl) (hh : compO hi = some ch) : SimO P Fb o (.slices cx cl ch) := by
  intro m F f a H w v H' hf hw h
  have h1 := compX_rel hf hx
  simp only [evI] at h
  generalize cx.ev f = cv at h1 h
  generalize hax : a.eval x = vx at h1
  cases h1 <;> first | (cases h; done) | skip
  rename_i s b hs
  simp only at h
  split at h
  · rename_i la ha e1 e2
    obtain ⟨u, hu, hv⟩ := map_some h
    cases hv
    unfold evSliceS at hu
    split at hu
    · rename_i hc
      cases hu
      have hsz := str_size hs
      have hr := run_sliceBounds (P := P) hf false b.size b.size la ha w hl hh e1 (by rw [hsz]; exact e2) hc.1 (by omega) (Nat.le_refl _)
      have := sim_pure (P := P) (m := m) (F := F) (v := .str ((s.drop la).take (ha - la))) (s := Instr.sliceAt t (.string b) (lo.map a.eval) (hi.map a.eval) none) hw (by
        simp [Instr.sliceAt, Instr.slice, Sem.run_bind, run_underlying ht, Result.andThen, hr]) (.str _ (b.extract la ha) (by
          rw [← hs, ByteArray.data_extract, Array.toList_extract]
          simp [List.extract, List.map_take, List.map_drop]))
      simpa [execOp, ho, hax] using this
    · cases hu
  · cases h
end Go.EV

/- Literals; places in arrays; maps. -/
namespace Go.EV
open Go.RowKit
variable {P : Program} {Fb : Fz}

theorem sim_iaddrA {o : Oper} {t e : TypeId} {x i : Operand} {cx ci : CX} {n es : Nat} (ho : o.op = .indexAddr t x i) (ht : P.underlying t = some (.array n e)) (hs : sizeOf? P e = some es) (hx : compX x = some cx) (hi : compX i = some ci) : SimO P Fb o (.iaddrA n es cx ci) := by
  intro m F f a H w v H' hf hw h
  have h1 := compX_rel hf hx
  have h2 := compX_rel hf hi
  simp only [evI] at h
  obtain ⟨u, hu, hv⟩ := map_some h
  cases hv
  generalize cx.ev f = cv at h1 hu
  generalize hax : a.eval x = vx at h1
  generalize ci.ev f = cu at h2 hu
  generalize hay : a.eval i = vy at h2
  have run : ∀ (c d k : Nat) (q : IntKind), k < n → (Instr.indexAt t (.pointer (some ⟨c, d, none⟩)) (.int q (Int.ofNat k))).run P w = .ok (.pointer (some ⟨c, d + k * es, none⟩)) w := by
    intro c d k q hk
    simp [Instr.indexAt, asIntOf, Sem.run_bind, run_underlying ht, Result.andThen, run_size hs, hk, Instr.sureAddr, Addr.add_lit]
  unfold evIaddrA at hu
  cases h2 with
  | int q j =>
    cases j with
    | negSucc j => cases hu
    | ofNat k =>
      simp only at hu
      split at hu
      · rename_i hk
        cases h1 with
        | ptr b off p hm =>
          cases hu
          have := sim_pure (P := P) hw (run p.c (p.d + off) k q hk) (by rw [Nat.add_assoc]; exact VR.ptr (F := F) b (off + k * es) p hm)
          simpa [execOp, ho, hax, hay] using this
        | cptr cs off c d g hq h3 h4 =>
          cases hu
          have := sim_pure (P := P) hw (run c (d + off) k q hk) (by rw [Nat.add_assoc]; exact VR.cptr (m := m) cs (off + k * es) c d g hq h3 h4)
          simpa [execOp, ho, hax, hay] using this
        | _ => cases hu
      · cases hu
  | _ => cases hu

/-- One part goes in. -/
theorem put_rel {m : Mp} {F : Fz} {cs cs' : List AV} {arr : Array Value} {off n : Nat} {v : AV} {v' : Value} (h : putPart cs off n v = some cs') (hv : VR m F v v') (hc : VRL m F cs arr) :
    v'.cells.size = n ∧ off + n ≤ arr.size ∧ VRL m F cs' (v'.cells.zipIdx.foldl (fun cs (c, j) => cs.setIfInBounds (off + j) c) arr) := by
  unfold putPart at h
  split at h
  · rename_i hh
    obtain ⟨e1, e2, e3⟩ := hh
    cases h
    have hl := hv.cellsL (fun e => by rw [e] at e3; cases e3)
    have hn : v'.cells.size = n := by rw [← hl.1]; exact e1
    refine ⟨hn, by rw [← hc.1]; exact e2, ?_⟩
    have hfold : v'.cells.zipIdx.foldl (fun cs (c, j) => cs.setIfInBounds (off + j) c) arr = (v'.cells.toList.zipIdx 0).foldl (fun cs (x : Value × Nat) => cs.setIfInBounds (off + x.2) x.1) arr := by
      rw [← Array.foldl_toList, Array.toList_zipIdx]
    rw [hfold]
    obtain ⟨g1, g2⟩ := Great.foldl_set off v'.cells.toList 0 arr
    refine ⟨by rw [g1, stc_length (by omega)]; exact hc.1, fun i x y ex ey => ?_⟩
    rw [stc_get (by omega)] at ex
    rw [g2 i] at ey
    have hcs := hc.1
    by_cases hi : off ≤ i ∧ i < off + v.cells.length
    · rw [if_pos hi] at ex
      rw [if_pos (by simp; omega)] at ey
      exact hl.2 _ _ _ ex (by simpa using ey)
    · rw [if_neg hi] at ex
      rw [if_neg (by simp; omega)] at ey
      exact hc.2 _ _ _ ex ey
  · cases h

theorem places_get {fs : Array Field} {pl : List (Nat × Nat)} (h : places? P fs = some pl) {i : Nat} {fd : Field} {n : Nat} (hi : fs[i]? = some fd) (hn : sizeOf? P fd.type = some n) : pl.toArray[i]? = some (fd.offset, n) := by
  have gen : ∀ (l : List Field) (pl : List (Nat × Nat)) (i : Nat), (l.mapM fun f => (P.info? f.type).map fun i => (f.offset, i.size)) = some pl → l[i]? = some fd → pl[i]? = some (fd.offset, n) := by
    intro l
    induction l with
    | nil => intro pl i _ e; simp at e
    | cons x l ih =>
      intro pl i e e2
      simp only [List.mapM_cons, Option.bind_eq_bind, Option.pure_def] at e
      cases hx : (P.info? x.type).map fun i => (x.offset, i.size) with
      | none => rw [hx] at e; cases e
      | some y =>
        rw [hx] at e
        simp only [Option.bind_some] at e
        cases hr : l.mapM fun f => (P.info? f.type).map fun i => (f.offset, i.size) with
        | none => rw [hr] at e; cases e
        | some r =>
          rw [hr] at e
          cases e
          cases i with
          | zero =>
            simp at e2; subst e2
            unfold sizeOf? at hn
            cases hq : P.info? x.type with
            | none => rw [hq] at hn; cases hn
            | some q => rw [hq] at hn hx; cases hn; cases hx; rfl
          | succ i => exact ih r i hr (by simpa using e2)
  have := gen fs.toList pl i h (by simpa using hi)
  simpa using this

theorem fill_rel {m : Mp} {F : Fz} {f : Fr} {a : Act} (hf : FRel m F f a.tmps) {fs : Array Field} {pl : List (Nat × Nat)} (hp : places? P fs = some pl) : ∀ (ps : List (Nat × Operand)) (cps : List (Nat × Nat × CX)) (cs cs' : List AV) (arr : Array Value),
    compParts P fs ps = some cps → evBuild f cps cs = some cs' → VRL m F cs arr → ∃ arr', Instr.fill (pl.toArray[·]?) arr (ps.map fun (i, x) => (i, a.eval x)) = some arr' ∧ VRL m F cs' arr'
  | [], cps, cs, cs', arr, h1, h2, h3 => by cases h1; cases h2; exact ⟨arr, rfl, h3⟩
  | (i, x) :: r, cps, cs, cs', arr, h1, h2, h3 => by
    unfold compParts at h1
    split at h1
    · rename_i fd hfd
      split at h1
      · rename_i n cx hn hx
        obtain ⟨c2, hc2, rfl⟩ := map_some h1
        unfold evBuild at h2
        split at h2
        · rename_i cs1 hcs1
          obtain ⟨e1, e2, e3⟩ := put_rel hcs1 (compX_rel hf hx) h3
          obtain ⟨arr', g1, g2⟩ := fill_rel hf hp r c2 cs1 cs' _ hc2 h2 e3
          refine ⟨arr', ?_, g2⟩
          simp only [List.map_cons]
          unfold Instr.fill
          rw [places_get hp hfd hn]
          simp only
          rw [if_neg (by simp; omega)]
          exact g1
        · cases h2
      · cases h1
    · cases h1

theorem sim_build {o : Oper} {t : TypeId} {parts : Array (Nat × Operand)} {fs : Array Field} {pl : List (Nat × Nat)} {z : List AV} {cps : List (Nat × Nat × CX)} (ho : o.op = .build t parts) (ht : P.underlying t = some (.struct fs)) (hz : zero? P t = some z) (hp : places? P fs = some pl) (hc : compParts P fs parts.toList = some cps) :
    SimO P Fb o (.build z cps) := by
  intro m F f a H w v H' hf hw h
  simp only [evI] at h
  obtain ⟨cs', hu, hv⟩ := map_some h
  cases hv
  obtain ⟨zv, h1, h2⟩ := zero?_rel hz
  obtain ⟨arr', g1, g2⟩ := fill_rel hf hp parts.toList cps z cs' zv.cells hc hu (avL_VRL h2)
  have hb : P.built t (parts.map fun (i, x) => (i, a.eval x)).toList = some arr' := by
    unfold Program.built
    cases hi : P.info? t with
    | none => rw [hi] at h1; cases h1
    | some it =>
      rw [hi] at h1
      simp only [Option.bind_some] at h1
      rw [ht]
      simp only [h1]
      unfold places? at hp
      rw [hp]
      simp only [Array.toList_map]
      exact g1
  have := sim_pure (P := P) hw (run_build w t _ arr' hb) (.agg cs' arr' g2.1 g2.2)
  simpa [execOp, ho] using this

/-! ## Maps -/
theorem sim_mkmap {o : Oper} {t : TypeId} (ho : o.op = .makeMap t none) : SimO P Fb o .mkmap := by
  intro m F f a H w v H' hf hw h
  simp only [evI, Option.some.injEq, Prod.mk.injEq] at h
  obtain ⟨rfl, rfl⟩ := h
  obtain ⟨g1, g2⟩ := hw.push (.map []) (.map #[] 0) ⟨w.heap.size, 0, 0, 0⟩ rfl ⟨#[], 0, heap_alloc_at w _, rfl, fun i k v e => by simp at e⟩
  refine ⟨_, _, .value (.map (some w.heap.size)), _, ?_, .inl ⟨_, rfl, ?_⟩, g1, g2⟩
  · have : (Instr.makeMap t none).run P w = .ok (.map (some w.heap.size)) (w.alloc (.map #[] 0)) := rfl
    simp [execOp, ho, this, Result.andThen]
  · exact VR.map H.length ⟨w.heap.size, 0, 0, 0⟩ (upd_same _ _ _)

theorem keyEq_same {m : Mp} {F : Fz} {d : TypeDesc} {k q : AV} {k' q' : Value} {b : Bool} {ks : Bool} (hd : (d = .string ∧ ks = true) ∨ ((∃ i, d = .int i) ∧ ks = false)) (hk : VR m F k k') (hq : VR m F q q') (h : keyEq ks k q = some b) :
    Instr.sameNow d k' q' = some b ∧ (b = true → k = q ∧ Instr.sameBits 10000 q' k' = true) := by
  unfold keyEq at h
  split at h
  · rename_i s t
    cases h
    cases hk with
    | str _ x ex =>
    cases hq with
    | str _ y ey =>
    obtain ⟨rfl, _⟩ : d = .string ∧ true = true := by
      rcases hd with h | h
      · exact h
      · cases h.2
    have e : ∀ {x y : ByteArray} {s t : List Nat}, x.data.toList.map UInt8.toNat = s → y.data.toList.map UInt8.toNat = t → (x == y) = decide (s = t) := by
      intro x y s t ex ey
      rw [beq_toListBytes, ba_toList, ba_toList, beq_list, ex, ey]
    refine ⟨by simp only [Instr.sameNow]; rw [e ex ey], fun hb => ?_⟩
    have hst : s = t := of_decide_eq_true hb
    refine ⟨by rw [hst], ?_⟩
    have : Instr.sameBits 10000 (.string y) (.string x) = (y == x) := by simp only [Instr.sameBits]
    rw [this, e ey ex]
    simp [hst]
  · rename_i i a i' a'
    split at h
    · rename_i hii
      subst hii
      cases h
      cases hk
      cases hq
      rcases hd with h | h
      · cases h.2
      obtain ⟨⟨j, rfl⟩, _⟩ := h
      refine ⟨by simp [Instr.sameNow]; rw [Bool.eq_iff_iff]; simp, fun hb => ?_⟩
      have hst : a = a' := of_decide_eq_true hb
      subst hst
      exact ⟨rfl, by simp [Instr.sameBits]⟩
    · cases h
  · cases h

abbrev KeyD (d : TypeDesc) (ks : Bool) : Prop := (d = .string ∧ ks = true) ∨ ((∃ i, d = .int i) ∧ ks = false)
def Ents (m : Mp) (F : Fz) (es : List (AV × AV)) (l : List MapEntry) : Prop := es.length = l.length ∧ ∀ (i : Nat) (k v : AV), es[i]? = some (k, v) → ∃ e : MapEntry, l[i]? = some e ∧ VR m F k e.key ∧ VR m F v e.val
theorem Ents.tail {m : Mp} {F : Fz} {x : AV × AV} {es : List (AV × AV)} {y : MapEntry} {l : List MapEntry} (h : Ents m F (x :: es) (y :: l)) : Ents m F es l :=
  ⟨by simpa using h.1, fun i k v e => by simpa using h.2 (i + 1) k v (by simpa using e)⟩
theorem findKey_rel {m : Mp} {F : Fz} {d : TypeDesc} {ks : Bool} {k : AV} {k' : Value} (hd : KeyD d ks) (hk : VR m F k k') : ∀ (es : List (AV × AV)) (l : List MapEntry) (i0 : Nat) (r : Option AV), Ents m F es l → findKey ks k es = some r →
    ∃ o, Instr.findNow d k' l i0 = some o ∧ ((r = none ∧ o = none) ∨ ∃ v i u, r = some v ∧ o = some (i, u) ∧ VR m F v u)
  | [], [], i0, r, _, h => by cases h; exact ⟨none, rfl, .inl ⟨rfl, rfl⟩⟩
  | [], _ :: _, _, _, he, _ => by cases he.1
  | _ :: _, [], _, _, he, _ => by cases he.1
  | (q, v) :: es, e :: l, i0, r, he, h => by
    obtain ⟨e', g1, g2, g3⟩ := he.2 0 q v rfl
    simp at g1; subst g1
    unfold findKey at h
    split at h
    · rename_i hb
      cases h
      obtain ⟨h1, _⟩ := keyEq_same hd hk g2 hb
      exact ⟨some (i0, e.val), by simp [Instr.findNow, h1], .inr ⟨v, i0, e.val, rfl, rfl, g3⟩⟩
    · rename_i hb
      obtain ⟨h1, _⟩ := keyEq_same hd hk g2 hb
      obtain ⟨o, h2, h3⟩ := findKey_rel hd hk es l (i0 + 1) r he.tail h
      exact ⟨o, by simp [Instr.findNow, h1, h2], h3⟩
    · cases h
theorem putKey_rel {m : Mp} {F : Fz} {d : TypeDesc} {ks : Bool} {k v : AV} {k' : Value} (hd : KeyD d ks) (hk : VR m F k k') : ∀ (es : List (AV × AV)) (l : List MapEntry) (i0 : Nat) (es' : List (AV × AV)), Ents m F es l → putKey ks k v es = some es' →
    ∃ o, Instr.findNow d k' l i0 = some o ∧ ((o = none ∧ es' = es ++ [(k, v)]) ∨ ∃ j e u, o = some (i0 + j, e.val) ∧ l[j]? = some e ∧ es[j]? = some (k, u) ∧ es' = es.set j (k, v) ∧ Instr.sameBits 10000 e.key k' = true)
  | [], [], i0, r, _, h => by cases h; exact ⟨none, rfl, .inl ⟨rfl, rfl⟩⟩
  | [], _ :: _, _, _, he, _ => by cases he.1
  | _ :: _, [], _, _, he, _ => by cases he.1
  | (q, u) :: es, e :: l, i0, r, he, h => by
    obtain ⟨e', g1, g2, g3⟩ := he.2 0 q u rfl
    simp at g1; subst g1
    unfold putKey at h
    split at h
    · rename_i hb
      cases h
      obtain ⟨h1, h2⟩ := keyEq_same hd hk g2 hb
      obtain ⟨rfl, h3⟩ := h2 rfl
      exact ⟨some (i0, e.val), by simp [Instr.findNow, h1], .inr ⟨0, e, u, rfl, rfl, rfl, rfl, h3⟩⟩
    · rename_i hb
      obtain ⟨h1, _⟩ := keyEq_same hd hk g2 hb
      obtain ⟨es2, hu, rfl⟩ := map_some h
      obtain ⟨o, h2, h3⟩ := putKey_rel hd hk es l (i0 + 1) es2 he.tail hu
      refine ⟨o, by simp [Instr.findNow, h1, h2], ?_⟩
      rcases h3 with ⟨rfl, rfl⟩ | ⟨j, e2, u2, rfl, c2, c3, rfl, c5⟩
      · exact .inl ⟨rfl, rfl⟩
      · exact .inr ⟨j + 1, e2, u2, by rw [Nat.add_assoc, Nat.add_comm 1 j], by simpa using c2, by simpa using c3, rfl, c5⟩
    · cases h

theorem run_checkKey' {w : World} {kt : TypeId} {d : TypeDesc} {ks : Bool} {k : Value} (hd : P.underlying kt = some d) (hk : KeyD d ks) (e : Bool) : (Instr.checkKey e 10000 kt k).run P w = .ok () w := by
  show (Instr.checkKey e (9999 + 1) kt k).run P w = _
  unfold Instr.checkKey
  rcases hk with ⟨rfl, _⟩ | ⟨⟨i, rfl⟩, _⟩ <;> simp [Sem.run_bind, run_underlying hd, Result.andThen]
theorem run_findKey' {w : World} {kt : TypeId} {d : TypeDesc} {k : Value} {l : List MapEntry} {a : Option (Nat × Value)} (hd : P.underlying kt = some d) (h : Instr.findNow d k l 0 = some a) : (Instr.findKey kt k l).run P w = .ok a w := by
  simp [Instr.findKey, run_underlying hd, Result.andThen, h]
theorem run_getMap {w : World} {r : Nat} {es : Array MapEntry} {clock : Nat} (hb : w.heap[r]? = some (.map es clock)) : (getObj r).run P w = .ok (.map es clock) w := by
  simp [getObj, Sem.run, hb]

theorem zeroV_rel {m : Mp} {F : Fz} {t : TypeId} {z : AV} (h : zeroV? P t = some z) : ∃ v : Value, (P.info? t).bind (·.zero) = some v ∧ VR m F z v := by
  unfold zeroV? at h
  cases hz : (P.info? t).bind (·.zero) with
  | none => rw [hz] at h; cases h
  | some v => rw [hz] at h; exact ⟨v, rfl, ofVal_rel h⟩

theorem sim_lookup {o : Oper} {t kt et : TypeId} {x y : Operand} {cx cy : CX} {d : TypeDesc} {ks ok : Bool} {z : AV} (ho : o.op = .lookup t x y ok) (ht : P.underlying t = some (.map kt et)) (hk : P.underlying kt = some d) (hd : KeyD d ks) (hz : zeroV? P et = some z) (hx : compX x = some cx) (hy : compX y = some cy) :
    SimO P Fb o (.lookup ks z ok cx cy) := by
  intro m F f a H w v H' hf hw h
  have h1 := compX_rel hf hx
  have h2 := compX_rel hf hy
  simp only [evI] at h
  generalize cx.ev f = cv at h1 h
  generalize hax : a.eval x = vx at h1
  generalize cy.ev f = cu at h2 h
  generalize hay : a.eval y = vy at h2
  cases h1 <;> first | (cases h; done) | skip
  rename_i b p hm
  simp only at h
  split at h
  · rename_i es hb
    split at h
    · rename_i r hr
      simp only [Option.some.injEq, Prod.mk.injEq] at h
      obtain ⟨rfl, rfl⟩ := h
      obtain ⟨k', hk', hbr⟩ := hw.blk b p hm
      rw [hb] at hk'; cases hk'
      obtain ⟨ents, ck, hh, hl, hrel⟩ := hbr
      obtain ⟨oo, g1, g2⟩ := findKey_rel hd h2 es ents.toList 0 r ⟨by simpa using hl, fun i k v e => by simpa using hrel i k v e⟩ hr
      obtain ⟨zv, z1, z2⟩ := zeroV_rel (m := m) (F := F) hz
      have key : ∃ u, VR m F (r.getD z) u ∧ (Instr.lookup t (.map (some p.c)) vy ok).run P w = .ok (if ok then .tuple #[u, .bool r.isSome] else u) w := by
        rcases g2 with ⟨rfl, rfl⟩ | ⟨u, i, u', rfl, rfl, g3⟩
        · exact ⟨zv, z2, by simp [Instr.lookup, Sem.run_bind, run_underlying ht, Result.andThen, run_getMap hh, run_checkKey' hk hd, run_findKey' hk g1, run_zero z1]⟩
        · exact ⟨u', g3, by simp [Instr.lookup, Sem.run_bind, run_underlying ht, Result.andThen, run_getMap hh, run_checkKey' hk hd, run_findKey' hk g1]⟩
      obtain ⟨u, hu, hrun⟩ := key
      have := sim_pure (P := P) (v := bif ok then .tup [r.getD z, .bool r.isSome] else r.getD z) hw hrun (by
        cases ok
        · exact hu
        · refine .tup _ _ rfl (fun i v v' e1 e2 => ?_)
          match i with
          | 0 => simp at e1 e2; subst e1; subst e2; exact hu
          | 1 => simp at e1 e2; subst e1; subst e2; exact .bool _
          | i + 2 => simp at e1)
      simpa [execOp, ho, hax, hay] using this
    · cases h
  · cases h

theorem sim_mapup {o : Oper} {t kt et : TypeId} {x y u : Operand} {cx cy cu : CX} {d : TypeDesc} {ks : Bool} (ho : o.op = .mapUpdate t x y u) (ht : P.underlying t = some (.map kt et)) (hk : P.underlying kt = some d) (hd : KeyD d ks) (hx : compX x = some cx) (hy : compX y = some cy) (hu : compX u = some cu) :
    SimO P Fb o (.mapup ks cx cy cu) := by
  intro m F f a H w v H' hf hw h
  have h1 := compX_rel hf hx
  have h2 := compX_rel hf hy
  have h3 := compX_rel hf hu
  simp only [evI] at h
  generalize cx.ev f = av at h1 h
  generalize hax : a.eval x = vx at h1
  generalize cy.ev f = ay at h2 h
  generalize hay : a.eval y = vy at h2
  generalize cu.ev f = au at h3 h
  generalize hau : a.eval u = vu at h3
  cases h1 <;> first | (cases h; done) | skip
  rename_i b p hm
  simp only at h
  split at h
  · rename_i es hb
    obtain ⟨es', he, hv⟩ := map_some h
    cases hv
    obtain ⟨k', hk', hbr⟩ := hw.blk b p hm
    rw [hb] at hk'; cases hk'
    obtain ⟨ents, ck, hh, hl, hrel⟩ := hbr
    have hmut : mutAt H b := ⟨_, hb, trivial⟩
    have hlt : p.c < w.heap.size := (Array.getElem?_eq_some_iff.1 hh).1
    obtain ⟨oo, g1, g2⟩ := putKey_rel hd h2 es ents.toList 0 es' ⟨by simpa using hl, fun i k v e => by simpa using hrel i k v e⟩ he
    have hset : ∀ o', (setObj p.c o').run P w = .ok () (w.putObj p.c o') := by
      intro o'; simp [setObj, Sem.run, hh, World.putObj]
    have fin : ∀ (ents' : Array MapEntry) (ck' : Nat), (Instr.mapUpdate t (.map (some p.c)) vy vu).run P w = .ok () (w.putObj p.c (.map ents' ck')) → es'.length = ents'.size →
        (∀ (i : Nat) (k v : AV), es'[i]? = some (k, v) → ∃ e : MapEntry, ents'[i]? = some e ∧ VR m F k e.key ∧ VR m F v e.val) →
        ∃ m' F' nx w', (execOp a.eval o).run P w = .ok nx w' ∧ NxR m' F' (.tup []) nx ∧ WR P Fb m' F' (H.set b (.map es')) w' ∧ Gs m F H w m' F' (H.set b (.map es')) w' := by
      intro ents' ck' hr e1 e2
      obtain ⟨q1, q2⟩ := hw.turn hm hmut (.map es') (.map ents' ck') ⟨ents', ck', World.putObj_heap_same hlt, e1, e2⟩ (fun r e => by rw [hh] at e; cases e)
      exact ⟨m, F, .skip, _, by simp [execOp, ho, hax, hay, hau, hr, Result.andThen], .inr ⟨rfl, rfl⟩, q1, q2⟩
    rcases g2 with ⟨rfl, rfl⟩ | ⟨j, e, u0, rfl, c2, c3, rfl, c5⟩
    · refine fin (ents.push { key := vy, val := vu, born := ck }) (ck + 1) ?_ (by simp [hl]) (fun i k v e => ?_)
      · simp only [Instr.mapUpdate, Sem.run_bind, run_underlying ht, Result.andThen, run_getMap hh, run_checkKey' hk hd, run_findKey' hk g1, hset]
      · rcases Nat.lt_trichotomy i es.length with hi | hi | hi
        · rw [List.getElem?_append_left hi] at e
          obtain ⟨x, q1, q2⟩ := hrel i k v e
          exact ⟨x, by rw [Array.getElem?_push, if_neg (by omega)]; exact q1, q2⟩
        · subst hi
          simp at e
          obtain ⟨rfl, rfl⟩ := e
          exact ⟨{ key := vy, val := vu, born := ck }, by rw [hl]; simp, h2, h3⟩
        · rw [List.getElem?_eq_none (by simp; omega)] at e; cases e
    · have c2' : ents[j]? = some e := by simpa using c2
      have hjl : j < ents.size := (Array.getElem?_eq_some_iff.1 c2').1
      rw [Nat.zero_add] at g1
      refine fin (ents.modify j fun x => { x with key := vy, val := vu }) ck ?_ (by simp [hl]) (fun i k v e' => ?_)
      · have hkey : (Instr.keyThatStays ((ents[j]?.map (·.key)).getD vy) vy).run P w = .ok vy w := by
          rw [c2']
          simp [Instr.keyThatStays, c5]
        simp only [Instr.mapUpdate, Sem.run_bind, run_underlying ht, Result.andThen, run_getMap hh, run_checkKey' hk hd, run_findKey' hk g1, hkey, hset]
      · by_cases hi : j = i
        · subst hi
          rw [List.getElem?_set_self (by omega)] at e'
          cases e'
          exact ⟨{ e with key := vy, val := vu }, by rw [Array.getElem?_modify, if_pos rfl, c2']; rfl, h2, h3⟩
        · rw [List.getElem?_set_ne hi] at e'
          obtain ⟨x, q1, q2⟩ := hrel i k v e'
          exact ⟨x, by rw [Array.getElem?_modify, if_neg hi]; exact q1, q2⟩
  · cases h
end Go.EV

/- Elements; bytes and strings; append. -/
namespace Go.EV
open Go.RowKit
variable {P : Program} {Fb : Fz}

theorem flatten_len {α : Type} {es : Nat} : ∀ (l : List (List α)), (∀ c ∈ l, c.length = es) → l.flatten.length = l.length * es
  | [], _ => by simp
  | c :: r, h => by
    have := flatten_len r (fun x hx => h x (List.mem_cons_of_mem _ hx))
    have h1 := h c (List.mem_cons_self ..)
    rw [List.flatten_cons, List.length_append, this, h1, List.length_cons, Nat.add_mul, Nat.one_mul, Nat.add_comm]
theorem flatten_at {α : Type} {es : Nat} : ∀ (l : List (List α)) (k : Nat) (v : α), (∀ c ∈ l, c.length = es) → l.flatten[k]? = some v → ∃ i c j, l[i]? = some c ∧ c[j]? = some v ∧ k = i * es + j
  | [], k, v, _, e => by simp at e
  | c :: r, k, v, h, e => by
    have h1 := h c (List.mem_cons_self ..)
    rw [List.flatten_cons] at e
    by_cases hk : k < es
    · rw [List.getElem?_append_left (by omega)] at e
      exact ⟨0, c, k, rfl, e, by omega⟩
    · rw [List.getElem?_append_right (by omega)] at e
      obtain ⟨i, c', j, e1, e2, e3⟩ := flatten_at r (k - c.length) v (fun x hx => h x (List.mem_cons_of_mem _ hx)) e
      exact ⟨i + 1, c', j, by simpa using e1, e2, by rw [Nat.add_mul]; omega⟩
theorem chunks_length (es : Nat) (cs : List AV) : ∀ (n o : Nat), (chunks es cs o n).length = n
  | 0, _ => rfl
  | n + 1, o => by simp [chunks, chunks_length es cs n (o + es)]
theorem chunks_each {es : Nat} {cs : List AV} : ∀ (n o : Nat), o + n * es ≤ cs.length → ∀ c ∈ chunks es cs o n, c.length = es
  | 0, _, _, c, hc => by simp [chunks] at hc
  | n + 1, o, h, c, hc => by
    rw [Nat.add_mul, Nat.one_mul] at h
    simp only [chunks, List.mem_cons] at hc
    rcases hc with rfl | hc
    · simp; omega
    · exact chunks_each n (o + es) (by omega) c hc
theorem chunks_flatten {es : Nat} {cs : List AV} : ∀ (n o : Nat), o + n * es ≤ cs.length → (chunks es cs o n).flatten = (cs.drop o).take (n * es)
  | 0, _, _ => by simp [chunks]
  | n + 1, o, h => by
    rw [Nat.add_mul, Nat.one_mul] at h
    simp only [chunks, List.flatten_cons]
    rw [chunks_flatten n (o + es) (by omega), Nat.add_mul, Nat.one_mul, Nat.add_comm (n * es) es, List.take_add, List.drop_drop]

/-- Elements are there. -/
theorem elems_rel {m : Mp} {F : Fz} {H : Hp} {w : World} (hw : WR P Fb m F H w) {x : AV} {v' : Value} {es : Nat} {l : List (List AV)} (h : VR m F x v') (he : elemsOf es H x = some l) (hes : 0 < es) :
    ∃ us : List Value, us.length = l.flatten.length ∧ (∀ (i : Nat) (v : AV) (u : Value), l.flatten[i]? = some v → us[i]? = some u → VR m F v u) ∧ l.flatten.length = l.length * es ∧ (∀ c ∈ l, c.length = es) ∧
      ((v' = .slice none 0 0 ∧ l = []) ∨ (∃ a cap, v' = .slice (some a) l.length cap ∧ ∀ (j : Nat) (u : Value), us[j]? = some u → w.cell? (a.add j) = some u) ∨ (∃ b, v' = .string b ∧ es = 1 ∧ us = byteCells b ∧ l.length = b.size)) := by
  have fromCells : ∀ {a : Addr} {cap : Nat} {k : List (List AV)}, (∀ c ∈ k, c.length = es) → (k ≠ [] → a.spot = none) → (∀ (j : Nat) (v : AV), k.flatten[j]? = some v → ∃ u, w.cell? ⟨a.block, a.off + j, none⟩ = some u ∧ VR m F v u) →
      ∃ us : List Value, us.length = k.flatten.length ∧ (∀ (i : Nat) (v : AV) (u : Value), k.flatten[i]? = some v → us[i]? = some u → VR m F v u) ∧ k.flatten.length = k.length * es ∧ (∀ c ∈ k, c.length = es) ∧
      ((Value.slice (some a) k.length cap = .slice none 0 0 ∧ k = []) ∨ (∃ a2 cap2, Value.slice (some a) k.length cap = .slice (some a2) k.length cap2 ∧ ∀ (j : Nat) (u : Value), us[j]? = some u → w.cell? (a2.add j) = some u) ∨ (∃ b, Value.slice (some a) k.length cap = .string b ∧ es = 1 ∧ us = byteCells b ∧ k.length = b.size)) := by
    intro a cap k hk hsp hc
    let us : List Value := (List.range k.flatten.length).map fun j => (w.cell? ⟨a.block, a.off + j, none⟩).getD undef
    have hl : us.length = k.flatten.length := by simp [us]
    have hu : ∀ (j : Nat) (u : Value), us[j]? = some u → j < k.flatten.length ∧ w.cell? ⟨a.block, a.off + j, none⟩ = some u := by
      intro j u e
      have hj : j < k.flatten.length := by rw [← hl]; exact (List.getElem?_eq_some_iff.1 e).1
      obtain ⟨y, hy, _⟩ := hc j _ (List.getElem?_eq_getElem hj)
      simp only [us, List.getElem?_map, List.getElem?_range hj, Option.map_some, Option.some.injEq] at e
      rw [hy] at e
      exact ⟨hj, by rw [hy, ← e]; rfl⟩
    refine ⟨us, hl, fun i v u e1 e2 => ?_, flatten_len k hk, hk, .inr (.inl ⟨a, cap, rfl, fun j u e => ?_⟩)⟩
    · obtain ⟨y, hy, hr⟩ := hc i v e1
      rw [(hu i u e2).2] at hy
      cases hy
      exact hr
    · obtain ⟨hj, hcell⟩ := hu j u e
      have hne : k ≠ [] := by rintro rfl; simp at hj
      rw [add_mul (hsp hne)]
      exact hcell
  cases h <;> first | (cases he; done) | skip
  · rename_i s b hs
    simp only [elemsOf] at he
    split at he
    · rename_i h1
      subst h1
      cases he
      have hb : ∀ s : List Nat, (bytesAV s).flatten = s.map fun (b : Nat) => AV.int .u8 (Int.ofNat b) := by
        intro s
        induction s with
        | nil => rfl
        | cons x r ih => show _ :: (bytesAV r).flatten = _ :: _; rw [ih]
      have hlen : (bytesAV s).length = b.size := by rw [str_size hs]; simp [bytesAV]
      have hfl : (bytesAV s).flatten.length = s.length := by rw [hb]; simp
      refine ⟨byteCells b, by rw [byteCells_length, hfl, str_size hs], fun i v u e1 e2 => ?_, by rw [hfl]; simp [bytesAV], fun c hc => ?_, .inr (.inr ⟨b, rfl, rfl, rfl, hlen⟩)⟩
      · rw [hb, ← hs] at e1
        unfold byteCells at e2
        rw [List.getElem?_map] at e2
        rw [List.map_map, List.getElem?_map] at e1
        obtain ⟨x, hx, rfl⟩ := map_some e1
        rw [hx] at e2
        cases e2
        exact .int .u8 _
      · unfold bytesAV at hc
        obtain ⟨x, _, rfl⟩ := List.mem_map.1 hc
        rfl
    · cases he
  · cases he
    exact ⟨[], rfl, fun i v u e => by simp at e, by simp, fun c hc => by simp at hc, .inl ⟨rfl, rfl⟩⟩
  · cases he
    rename_i a
    exact fromCells (k := []) (fun c hc => by simp at hc) (fun h => absurd rfl h) (fun j v e => by simp at e)
  · rename_i es' a cap g hq hs hl hc h1 h2
    simp only [elemsOf] at he
    split at he
    · rename_i hee
      cases he
      rcases headOk_spec hee hl with rfl | rfl
      · exact fromCells (k := []) (fun c hc => by simp at hc) (fun h => absurd rfl h) (fun j v e => by simp at e)
      · refine fromCells hl hs (fun j v e => ?_)
        obtain ⟨i, c, k, e1, e2, rfl⟩ := flatten_at l j v hl e
        exact ⟨g i k, cell_of_fcell hw (h1 i c k v e1 e2), h2 i c k v e1 e2⟩
    · cases he
  · simp only [elemsOf] at he
    split at he
    · cases he
      exact ⟨[], rfl, fun i v u e => by simp at e, by simp, fun c hc => by simp at hc, .inl ⟨rfl, rfl⟩⟩
    · cases he
  · rename_i es' b o len p a cap hm hl ha
    simp only [elemsOf] at he
    split at he
    · rename_i hee
      split at he
      · rename_i st ty cs hb
        split at he
        · rename_i hle
          cases he
          have hc := ptr_cells hw hm hb
          rcases hee with hee | rfl
          case inr => exact fromCells (k := []) (a := a) (cap := cap) (fun c hc => by simp at hc) (fun h => absurd rfl h) (fun j v e => by simp at e)
          subst hee
          have hcl := chunks_length es' cs len o
          have ha' : chunks es' cs o len ≠ [] → a = ⟨p.c, p.d + o, none⟩ := fun hne => (ha (fun e => by
            have : len = 0 := by omega
            subst this
            exact hne rfl)).1
          have := fromCells (a := a) (cap := cap) (chunks_each len o hle) (fun hne => by rw [ha' hne]) (fun j v e => by
            have hne : chunks es' cs o len ≠ [] := by intro h0; rw [h0] at e; simp at e
            rw [chunks_flatten len o hle] at e
            have hj : j < len * es' := by
              have := (List.getElem?_eq_some_iff.1 e).1
              simp at this; omega
            rw [List.getElem?_take_of_lt hj, List.getElem?_drop] at e
            obtain ⟨u, q1, q2⟩ := hc (o + j) v e
            exact ⟨u, by rw [ha' hne]; simpa [Nat.add_assoc] using q1, q2⟩)
          rw [hcl] at this
          rw [hcl]
          exact this
        · cases he
      · cases he
    · cases he
end Go.EV

/- Bytes and strings; slice literals; clearing. -/
namespace Go.EV
open Go.RowKit
variable {P : Program} {Fb : Fz}

theorem optL_bytes : ∀ (l : List (List AV)) (s : List Nat), optL byteOf l = some s → l.flatten = s.map (fun (b : Nat) => AV.int .u8 (Int.ofNat b)) ∧ (∀ b ∈ s, b < 256) ∧ l.length = s.length
  | [], s, h => by cases h; exact ⟨rfl, fun b hb => by simp at hb, rfl⟩
  | c :: r, s, h => by
    unfold optL at h
    split at h
    · rename_i b hb
      obtain ⟨s', hs, rfl⟩ := map_some h
      obtain ⟨h1, h2, h3⟩ := optL_bytes r s' hs
      unfold byteOf at hb
      split at hb
      · rename_i n
        split at hb
        · rename_i hlt
          cases hb
          exact ⟨by rw [List.flatten_cons, h1]; rfl, fun b hb => by
            rcases List.mem_cons.1 hb with rfl | hb
            · exact hlt
            · exact h2 b hb, by simp [h3]⟩
        · cases hb
      · cases hb
    · cases h
theorem foldl_push : ∀ (ns : List Int) (acc : ByteArray), (ns.foldl (fun r n => r.push (UInt8.ofNat n.toNat)) acc).data.toList = acc.data.toList ++ ns.map fun n => UInt8.ofNat n.toNat
  | [], acc => by simp
  | n :: r, acc => by
    rw [List.foldl_cons, foldl_push r, ByteArray.data_push]
    simp
theorem bytes_back {s : List Nat} (h : ∀ b ∈ s, b < 256) : ((s.map fun (b : Nat) => (Int.ofNat b)).foldl (fun r n => r.push (UInt8.ofNat n.toNat)) ByteArray.empty).data.toList.map UInt8.toNat = s := by
  rw [foldl_push]
  simp only [List.map_map, List.map_append]
  have : ByteArray.empty.data.toList = [] := rfl
  rw [this, List.map_nil, List.nil_append]
  conv => rhs; rw [← List.map_id s]
  refine List.map_congr_left fun b hb => ?_
  have := h b hb
  show (UInt8.ofNat b).toNat = b
  simp
  omega

theorem sim_b2s {o : Oper} {s d e : TypeId} {x : Operand} {cx : CX} (ho : o.op = .convert s d x) (hs : P.underlying s = some (.slice e)) (he : P.underlying e = some (.int .u8)) (hd : P.underlying d = some .string) (hx : compX x = some cx) : SimO P Fb o (.b2s cx) := by
  intro m F f a H w v H' hf hw h
  have h1 := compX_rel hf hx
  simp only [evI] at h
  generalize cx.ev f = cv at h1 h
  generalize hax : a.eval x = vx at h1
  split at h
  · rename_i l hl
    obtain ⟨bs, hbs, hv⟩ := map_some h
    cases hv
    obtain ⟨e1, e2, e3⟩ := optL_bytes l bs hbs
    obtain ⟨us, u1, u2, u3, u4, u5⟩ := elems_rel hw h1 hl (by decide)
    have hus : us = (bs.map fun (b : Nat) => (Int.ofNat b)).map (Value.int .u8) := by
      apply List.ext_getElem?
      intro i
      by_cases hi : i < us.length
      · obtain ⟨q, hfi⟩ : ∃ q, l.flatten[i]? = some q := ⟨_, List.getElem?_eq_getElem (by omega)⟩
        obtain ⟨z, hz⟩ : ∃ z, us[i]? = some z := ⟨_, List.getElem?_eq_getElem hi⟩
        have := u2 i _ z hfi hz
        rw [e1, List.getElem?_map] at hfi
        obtain ⟨b, hb, hb2⟩ := map_some hfi
        rw [← hb2] at this
        rw [hz, List.map_map, List.getElem?_map, hb]
        cases this
        rfl
      · rw [List.getElem?_eq_none (by omega), List.getElem?_eq_none (by rw [e1] at u1; simp at u1 ⊢; omega)]
    have fin : ∀ sv : ByteArray, (convert s d vx).run P w = .ok (.string sv) w → sv.data.toList.map UInt8.toNat = bs → ∃ m' F' nx w', (execOp a.eval o).run P w = .ok nx w' ∧ NxR m' F' (.str bs) nx ∧ WR P Fb m' F' H w' ∧ Gs m F H w m' F' H w' := by
      intro sv hr hb
      have := sim_pure (P := P) (m := m) (F := F) (s := convert s d vx) hw hr (.str bs sv hb)
      simpa [execOp, ho, hax] using this
    rcases u5 with ⟨rfl, rfl⟩ | ⟨A, cap, rfl, hcell⟩ | ⟨b, rfl, _, hb, _⟩
    · cases hbs
      refine fin .empty ?_ rfl
      simp [convert, Sem.run_bind, run_underlying hs, run_underlying hd, run_underlying he, Result.andThen, Conv.bytesToString]
    · have hlen : l.length = us.length := by rw [u1, u3, Nat.mul_one]
      have hload : (loadCells A l.length).run P w = .ok ((bs.map fun (b : Nat) => (Int.ofNat b)).map (Value.int .u8)).toArray w := by
        rw [hlen, ← hus]
        exact run_loadCells_list w A us hcell
      refine fin _ ?_ (bytes_back e2)
      rw [run_convert_bytes_string w s d e (some A) _ _ hs he hd]
      exact run_bytesToString w A _ cap _ hload
    · refine fin b ?_ ?_
      · simp [convert, Sem.run_bind, run_underlying hs, run_underlying hd, Result.andThen]
      · rw [hb] at hus
        unfold byteCells at hus
        have h3 := congrArg (List.map fun v : Value => match v with | .int _ n => n.toNat | _ => 0) hus
        simp only [List.map_map] at h3
        have h4 : (fun v : Value => match v with | .int _ n => n.toNat | _ => 0) ∘ (fun b : UInt8 => Value.int .u8 b.toNat) = UInt8.toNat := by funext b; simp
        have h5 : (fun v : Value => match v with | .int _ n => n.toNat | _ => 0) ∘ (Value.int .u8 ∘ fun (b : Nat) => (Int.ofNat b)) = id := by funext b; simp
        rw [h4, h5, List.map_id] at h3
        exact h3
  · cases h

/-! ## Blocks nobody changes -/
def updF (F : Fz) (c : Nat) (o : Obj) : Fz := fun x => if x = c then some o else F x
theorem updF_same (F : Fz) (c : Nat) (o : Obj) : updF F c o c = some o := by simp [updF]
theorem WR.pushFz {m : Mp} {F : Fz} {H : Hp} {w : World} (hw : WR P Fb m F H w) (o : Obj) : WR P Fb m (updF F w.heap.size o) H (w.alloc o) ∧ Gs m F H w m (updF F w.heap.size o) H (w.alloc o) := by
  have hle : FzLe F (updF F w.heap.size o) := fun c x h => by
    unfold updF
    rw [if_neg (by have := hw.Flt h; omega)]; exact h
  refine ⟨⟨hw.bs.trans hle, fun c x h => ?_, fun b p h => ?_, hw.inj, fun b p h hm => ?_⟩, ⟨MpLe.refl _, hle, fun b p h k => (by rw [h] at k; cases k), fun c x h k => ?_, fun _ _ _ h => h, fun c hc _ => heap_alloc_lt w o hc, by rw [size_alloc']; omega, rfl, rfl, rfl, Nat.le_refl _, fun b p hn hp => (by rw [hp] at hn; cases hn), fun c r h => ⟨r, (heap_alloc_lt w o (Array.getElem?_eq_some_iff.1 h).1).trans h, SameL.refl r⟩⟩⟩
  · unfold updF at h
    split at h
    · rename_i e; cases h; rw [e]; exact heap_alloc_at w o
    · exact (heap_alloc_lt w o (hw.Flt h)).trans (hw.fz c x h)
  · obtain ⟨k, hk, hb⟩ := hw.blk b p h
    exact ⟨k, hk, BR.mono (MpLe.refl _) hle (fun hm => heap_alloc_lt w o (hw.mutlt h ⟨k, hk, hm⟩)) hb⟩
  · unfold updF
    rw [if_neg (by have := hw.mutlt h hm; omega)]
    exact hw.fre b p h hm
  · unfold updF at h
    split at h
    · exact .inl (by omega)
    · rw [h] at k; cases k
theorem WR.pushJunk {m : Mp} {F : Fz} {H : Hp} {w : World} (hw : WR P Fb m F H w) (o : Obj) : WR P Fb m F H (w.alloc o) ∧ Gs m F H w m F H (w.alloc o) := by
  refine ⟨⟨hw.bs, fun c x h => (heap_alloc_lt w o (hw.Flt h)).trans (hw.fz c x h), fun b p h => ?_, hw.inj, hw.fre⟩, ⟨MpLe.refl _, FzLe.refl _, fun b p h k => (by rw [h] at k; cases k), fun c x h k => (by rw [h] at k; cases k), fun _ _ _ h => h, fun c hc _ => heap_alloc_lt w o hc, by rw [size_alloc']; omega, rfl, rfl, rfl, Nat.le_refl _, fun b p hn hp => (by rw [hp] at hn; cases hn), fun c r h => ⟨r, (heap_alloc_lt w o (Array.getElem?_eq_some_iff.1 h).1).trans h, SameL.refl r⟩⟩⟩
  obtain ⟨k, hk, hb⟩ := hw.blk b p h
  exact ⟨k, hk, BR.mono (MpLe.refl _) (FzLe.refl _) (fun hm => heap_alloc_lt w o (hw.mutlt h ⟨k, hk, hm⟩)) hb⟩
theorem WR.drew {m : Mp} {F : Fz} {H : Hp} {w : World} (hw : WR P Fb m F H w) : WR P Fb m F H w.drew ∧ Gs m F H w m F H w.drew := by
  refine ⟨⟨hw.bs, hw.fz, fun b p h => ?_, hw.inj, hw.fre⟩, Gs.drawn _⟩
  obtain ⟨k, hk, hb⟩ := hw.blk b p h
  exact ⟨k, hk, BR.mono (MpLe.refl _) (FzLe.refl _) (fun _ => rfl) hb⟩

theorem freeze_new (w : World) (arr : Array Value) (e : TypeId) (n : Nat) : (w.alloc (.cells arr e)).freeze ⟨w.heap.size, n, none⟩ 1 = w.alloc (.cells arr e (n, n + 1)) := by
  unfold World.freeze
  rw [if_neg (by decide)]
  have : (w.alloc (.cells arr e)).heap.modify w.heap.size (fun
      | .cells c elem (lo, hi) => .cells c elem (if lo == hi then (n, n + 1) else (min lo n, max hi (n + 1)))
      | o => o) = (w.alloc (.cells arr e (n, n + 1))).heap := by
    apply Array.ext_getElem?
    intro i
    rw [Array.getElem?_modify]
    by_cases h : w.heap.size = i
    · rw [if_pos h, ← h, heap_alloc_at, heap_alloc_at]
      simp
    · rw [if_neg h]
      show (w.heap.push _)[i]? = (w.heap.push _)[i]?
      rw [Array.getElem?_push, Array.getElem?_push, if_neg (fun x => h x.symm), if_neg (fun x => h x.symm)]
  exact congrArg (fun h : Array Obj => ({ heap := h, tape := w.tape, drawn := w.drawn, os := w.os, output := w.output } : World)) this

theorem sim_s2b {o : Oper} {s d e : TypeId} {x : Operand} {cx : CX} (ho : o.op = .convert s d x) (hs : P.underlying s = some .string) (hd : P.underlying d = some (.slice e)) (he : P.underlying e = some (.int .u8)) (hx : compX x = some cx) : SimO P Fb o (.s2b cx) := by
  intro m F f a H w v H' hf hw h
  have h1 := compX_rel hf hx
  simp only [evI] at h
  generalize cx.ev f = cv at h1 h
  generalize hax : a.eval x = vx at h1
  cases h1 <;> first | (cases h; done) | skip
  rename_i sl b hsl
  simp only [Option.some.injEq, Prod.mk.injEq] at h
  obtain ⟨rfl, rfl⟩ := h
  obtain ⟨w1, g1⟩ := hw.drew
  let cap := grownCap w b.size 0 e
  let arr : Array Value := b.data.map (fun b => Value.int .u8 b.toNat) ++ Array.replicate (cap - b.size) (.int .u8 0)
  obtain ⟨w2, g2⟩ := w1.pushFz (.cells arr e (arr.size, arr.size + 1))
  refine ⟨_, _, .value (.slice (some ⟨w.heap.size, 0, none⟩) b.size cap), _, ?_, .inl ⟨_, rfl, ?_⟩, w2, g1.trans g2⟩
  · have hsh : (w.drew.alloc (.cells arr e)).shape? w.heap.size = some (e, arr.size) := by
      unfold World.shape?
      rw [show (w.drew.alloc (.cells arr e)).heap[w.heap.size]? = some (.cells arr e) from heap_alloc_at w.drew _]
    have hmark : (markStringish ⟨w.heap.size, 0, none⟩).run P (w.drew.alloc (.cells arr e)) = .ok () (w.drew.alloc (.cells arr e (arr.size, arr.size + 1))) := by
      simp only [markStringish, shape, Sem.run_bind, Sem.run, hsh, Result.andThen, freeze]
      congr 1
      exact freeze_new w.drew arr e arr.size
    have hrow : (newRow e arr).run P w.drew = .ok ⟨w.heap.size, 0, none⟩ (w.drew.alloc (.cells arr e)) := run_newRow' e arr w.drew
    have hconv : (Conv.stringToBytes e b).run P w = .ok (.slice (some ⟨w.heap.size, 0, none⟩) b.size cap) (w.drew.alloc (.cells arr e (arr.size, arr.size + 1))) := by
      have hch : (choose (.appendCap b.size 0 e)).run P w = .ok cap w.drew := by
        rw [run_choose_drew]; simp [Question.forced, cap, grownCap]
      simp only [Conv.stringToBytes, Sem.run_bind, hch, Result.andThen]
      rw [show (newRow e (b.data.map (fun b => Value.int .u8 b.toNat) ++ Array.replicate (cap - b.size) (.int .u8 0))).run P w.drew = _ from hrow]
      simp only
      rw [hmark]
      rfl
    have hrun : (convert s d (.string b)).run P w = .ok (.slice (some ⟨w.heap.size, 0, none⟩) b.size cap) (w.drew.alloc (.cells arr e (arr.size, arr.size + 1))) := by
      simp only [convert, Sem.run_bind, run_underlying hs, run_underlying hd, run_underlying he, Result.andThen, hconv]
    simp [execOp, ho, hax, hrun, Result.andThen]
  · have hlen : (bytesAV sl).length = b.size := by rw [str_size hsl]; simp [bytesAV]
    have hat : ∀ (i : Nat) (c : List AV), (bytesAV sl)[i]? = some c → ∃ q, sl[i]? = some q ∧ c = [.int .u8 (Int.ofNat q)] := by
      intro i c e
      unfold bytesAV at e
      rw [List.getElem?_map] at e
      obtain ⟨q, h1, h2⟩ := map_some e
      exact ⟨q, h1, h2.symm⟩
    have hmem : ∀ c, c ∈ bytesAV sl → ∃ q : Nat, c = [.int .u8 (Int.ofNat q)] := by
      intro c hc
      obtain ⟨q, _, rfl⟩ := List.mem_map.1 hc
      exact ⟨q, rfl⟩
    have := VR.lst (m := m) (F := updF F w.drew.heap.size (.cells arr e (arr.size, arr.size + 1))) 1 (bytesAV sl) ⟨w.heap.size, 0, none⟩ cap (fun i _ => .int .u8 (((sl[i]?).getD 0 : Nat) : Int)) (fun c hc => by obtain ⟨q, rfl⟩ := hmem c hc; rfl) (fun _ => rfl) (fun c hc => by obtain ⟨q, rfl⟩ := hmem c hc; rfl) (by rw [hlen]; exact grownCap_ge w b.size 0 e)
      (fun i c j v e1 e2 => ?_) (fun i c j v e1 e2 => ?_)
    · rw [hlen] at this; exact this
    · obtain ⟨q, q1, rfl⟩ := hat i c e1
      cases j with
      | succ j => simp at e2
      | zero =>
        unfold fcell
        rw [show updF F w.drew.heap.size (.cells arr e (arr.size, arr.size + 1)) w.heap.size = some _ from updF_same _ _ _]
        have hi : i < b.size := by rw [← hlen]; exact (List.getElem?_eq_some_iff.1 e1).1
        have hi2 : i < (b.data.map (fun b => Value.int .u8 b.toNat)).size := by rw [Array.size_map]; exact hi
        simp only [arr, Nat.zero_add, Nat.mul_one, Nat.add_zero]
        rw [Array.getElem?_append_left hi2, Array.getElem?_map, q1]
        rw [← hsl, List.getElem?_map, Array.getElem?_toList] at q1
        obtain ⟨u8, h3, h4⟩ := map_some q1
        rw [h3, ← h4]
        rfl
    · obtain ⟨q, q1, rfl⟩ := hat i c e1
      cases j with
      | succ j => simp at e2
      | zero =>
        simp at e2
        subst e2
        rw [q1]
        exact .int .u8 _
end Go.EV

/- Slice literals; clearing; append. -/
namespace Go.EV
open Go.RowKit
variable {P : Program} {Fb : Fz}

theorem rep_length (z : List AV) : ∀ n, (rep z n).length = n * z.length
  | 0 => by simp [rep]
  | n + 1 => by rw [rep, List.length_append, rep_length z n, Nat.add_mul, Nat.one_mul, Nat.add_comm]
theorem rep_get (z : List AV) (hz : 0 < z.length) : ∀ n k, k < n * z.length → (rep z n)[k]? = z[k % z.length]?
  | 0, k, h => by simp at h
  | n + 1, k, h => by
    rw [rep]
    by_cases hk : k < z.length
    · rw [List.getElem?_append_left hk, Nat.mod_eq_of_lt hk]
    · rw [Nat.add_mul, Nat.one_mul] at h
      rw [List.getElem?_append_right (by omega), rep_get z hz n _ (by omega), ← Nat.mod_eq_sub_mod (by omega)]
theorem rep_rel {m : Mp} {F : Fz} {z : List AV} {zc : Array Value} (h : VRL m F z zc) (hz : 0 < z.length) (n : Nat) : VRL m F (rep z n) (Builtin.zeroCells zc n) := by
  refine ⟨by rw [rep_length, size_zeroCells, h.1], fun i v u e1 e2 => ?_⟩
  have hi : i < n * z.length := by rw [← rep_length]; exact (List.getElem?_eq_some_iff.1 e1).1
  rw [rep_get z hz n i hi] at e1
  unfold Builtin.zeroCells at e2
  rw [Array.getElem?_map, Array.getElem?_range, if_pos (by rw [← h.1]; exact hi)] at e2
  simp only [Option.map_some, Option.some.injEq] at e2
  have hm : i % zc.size < zc.size := Nat.mod_lt _ (by rw [← h.1]; exact hz)
  rw [getElem!_pos zc _ hm] at e2
  exact h.2 _ _ _ e1 (by rw [h.1, Array.getElem?_eq_getElem hm, e2])
theorem ofVal1_one {v : Value} {a : AV} (h : ofVal1 v = some a) : a.one = true := by
  unfold ofVal1 at h
  split at h <;> first | (cases h; rfl) | cases h
theorem avL_one : ∀ (l : List Value) (cs : List AV), avL ofVal1 l = some cs → cs.all AV.one = true
  | [], cs, h => by cases h; rfl
  | x :: r, cs, h => by
    unfold avL at h
    cases hx : ofVal1 x with
    | none => rw [hx] at h; cases h
    | some a =>
      rw [hx] at h
      obtain ⟨as, h1, rfl⟩ := map_some h
      rw [List.all_cons, ofVal1_one hx, avL_one r as h1]; rfl
theorem rep_all {z : List AV} (h : z.all AV.one = true) : ∀ n, (rep z n).all AV.one = true
  | 0 => rfl
  | n + 1 => by rw [rep, List.all_append, h, rep_all h n]; rfl

theorem sim_clear {o : Oper} {c : Call} {x : Operand} {t e : TypeId} {cx : CX} {es : Nat} {z : List AV} (ho : o.op = .call c) (hb : c.callee = .builtin .clear) (hargs : c.args.toList = [x]) (htys : c.argTypes.toList = [t]) (hx : compX x = some cx)
    (ht : P.underlying t = some (.slice e)) (hz : zero? P e = some z) (hes : 0 < es) (hzl : z.length = es) : SimO P Fb o (.clear es z cx) := by
  intro m F f a H w v H' hf hw h
  have h1 := compX_rel hf hx
  simp only [evI] at h
  generalize cx.ev f = cv at h1 h
  generalize hax : a.eval x = vx at h1
  have fin : ∀ {w' : World} {H' : Hp}, (Builtin.clear_ #[t] o.type #[vx]).run P w = .ok (.tuple #[]) w' → WR P Fb m F H' w' → Gs m F H w m F H' w' → ∃ m' F' nx w', (execOp a.eval o).run P w = .ok nx w' ∧ NxR m' F' (.tup []) nx ∧ WR P Fb m' F' H' w' ∧ Gs m F H w m' F' H' w' := by
    intro w' H' hr q1 q2
    refine ⟨m, F, .value (.tuple #[]), w', ?_, .inl ⟨_, rfl, .tup [] #[] rfl (fun i v v' e => by simp at e)⟩, q1, q2⟩
    rw [exec_builtin ho hb, toList_one htys, toList_one hargs]
    simp [builtin, hax, hr, Result.andThen]
  cases h1 <;> first | (cases h; done) | skip
  · simp only [Option.some.injEq, Prod.mk.injEq] at h
    obtain ⟨rfl, rfl⟩ := h
    exact fin (by simp [Builtin.clear_, run_underlying ht, Result.andThen]) hw (Gs.refl ..)
  · simp only [Option.some.injEq, Prod.mk.injEq] at h
    obtain ⟨rfl, rfl⟩ := h
    exact fin (by simp [Builtin.clear_, run_underlying ht, Result.andThen]) hw (Gs.refl ..)
  · rename_i es' b off len p A cap hm hl ha
    simp only at h
    split at h
    · rename_i hee
      subst hee
      split at h
      · rename_i ty cs hbb
        split at h
        · rename_i hle
          simp only [Option.some.injEq, Prod.mk.injEq] at h
          obtain ⟨rfl, rfl⟩ := h
          by_cases h0 : len = 0
          · subst h0
            have e1 : stc cs off (rep z 0) = cs := by simp [stc, rep]
            have e2 : H.set b (.cells 1 ty cs) = H := by
              apply List.ext_getElem?
              intro i
              rw [List.getElem?_set]
              split
              · rename_i e3; subst e3; rw [hbb]; simp [(List.getElem?_eq_some_iff.1 hbb).1]
              · rfl
            rw [e1, e2]
            exact fin (by simp [Builtin.clear_, run_underlying ht, Result.andThen]) hw (Gs.refl ..)
          · obtain ⟨rfl, _⟩ := ha (by omega)
            obtain ⟨zv, h1, h2⟩ := zero?_rel hz
            have hv := rep_rel (avL_VRL (m := m) (F := F) h2) (by omega) len
            have hrl : (rep z len).length = len * es' := by rw [rep_length, hzl]
            obtain ⟨w', r1, r2, r3⟩ := store_rel hw hm hbb (o := off) (vs := rep z len) (by rw [hrl]; exact hle) hv (rep_all (avL_one _ _ h2) len) (by
              intro e0; rw [e0] at hrl; have : 0 < len * es' := Nat.mul_pos (by omega) hes; simp only [List.length_nil] at hrl; omega)
            refine fin ?_ r2 r3
            obtain ⟨k, rfl⟩ : ∃ k, len = k + 1 := ⟨len - 1, by omega⟩
            simp [Builtin.clear_, Sem.run_bind, run_underlying ht, Result.andThen, run_zero h1, r1]
        · cases h
      · cases h
    · cases h

theorem buildS_len {f : Fr} {es : Nat} : ∀ (cps : List (Nat × CX)) (cs cs' : List AV), evBuildS f es cps cs = some cs' → cs'.length = cs.length
  | [], cs, cs', h => by cases h; rfl
  | (i, x) :: r, cs, cs', h => by
    unfold evBuildS at h
    split at h
    · rename_i cs1 h1
      rw [buildS_len r cs1 cs' h]
      unfold putPart at h1
      split at h1
      · rename_i hh; cases h1; exact stc_length (by omega)
      · cases h1
    · cases h
theorem fillS_rel {m : Mp} {F : Fz} {f : Fr} {a : Act} {es : Nat} (hf : FRel m F f a.tmps) : ∀ (ps : List (Nat × Operand)) (cps : List (Nat × CX)) (cs cs' : List AV) (arr : Array Value),
    compPartsS ps = some cps → evBuildS f es cps cs = some cs' → VRL m F cs arr → ∃ arr', Instr.fill (fun i => some (i * es, es)) arr (ps.map fun (i, x) => (i, a.eval x)) = some arr' ∧ VRL m F cs' arr'
  | [], cps, cs, cs', arr, h1, h2, h3 => by cases h1; cases h2; exact ⟨arr, rfl, h3⟩
  | (i, x) :: r, cps, cs, cs', arr, h1, h2, h3 => by
    unfold compPartsS at h1
    split at h1
    · rename_i cx hx
      obtain ⟨c2, hc2, rfl⟩ := map_some h1
      unfold evBuildS at h2
      split at h2
      · rename_i cs1 hcs1
        obtain ⟨e1, e2, e3⟩ := put_rel hcs1 (compX_rel hf hx) h3
        obtain ⟨arr', g1, g2⟩ := fillS_rel hf r c2 cs1 cs' _ hc2 h2 e3
        refine ⟨arr', ?_, g2⟩
        simp only [List.map_cons]
        unfold Instr.fill
        simp only
        rw [if_neg (by simp; omega)]
        exact g1
      · cases h2
    · cases h1

theorem bslice_run {m : Mp} {F : Fz} {f : Fr} {a : Act} {t e : TypeId} {len es : Nat} {parts : Array (Nat × Operand)} {z cs' : List AV} {cps : List (Nat × CX)} (hf : FRel m F f a.tmps) (w : World) (ht : P.underlying t = some (.slice e)) (hs : sizeOf? P e = some es) (hz : zero? P e = some z) (hc : compPartsS parts.toList = some cps)
    (hl : len * es ≤ 16777216) (hzl : z.length = es) (hes : 0 < es) (hu : evBuildS f es cps (rep z len) = some cs') :
    ∃ arr', (Instr.buildSlice t len (parts.map fun (i, x) => (i, a.eval x))).run P w = .ok (.slice (some ⟨w.heap.size, 0, none⟩) len len) (w.alloc (.cells arr' e)) ∧ VRL m F cs' arr' ∧ arr'.size = len * es := by
  obtain ⟨zv, h1, h2⟩ := zero?_rel hz
  have hzr := avL_VRL (m := m) (F := F) h2
  obtain ⟨arr', g1, g2⟩ := fillS_rel hf parts.toList cps _ cs' _ hc hu (rep_rel hzr (by omega) len)
  obtain ⟨ie, hie, hsz⟩ : ∃ ie, P.info? e = some ie ∧ ie.size = es := map_some hs
  have hzz : ie.zero = some zv := by rw [hie] at h1; exact h1
  have hrun : (Instr.buildSlice t len (parts.map fun (i, x) => (i, a.eval x))).run P w = .ok (.slice (some ⟨w.heap.size, 0, none⟩) len len) (w.alloc (.cells arr' e)) := by
    by_cases h0 : len = 0
    · subst h0
      have hz0 : Builtin.zeroCells zv.cells 0 = #[] := by simp [Builtin.zeroCells]
      have hp : parts = #[] := by
        have : parts.toList = [] := by
          cases hpl : parts.toList with
          | nil => rfl
          | cons y r =>
            rw [hpl] at hc
            obtain ⟨i, x⟩ := y
            unfold compPartsS at hc
            split at hc
            · obtain ⟨c2, _, rfl⟩ := map_some hc
              unfold evBuildS putPart at hu
              rw [if_neg (by simp [rep]; omega)] at hu
              cases hu
            · cases hc
        simpa using this
      subst hp
      rw [hz0] at g1
      cases g1
      simp [Instr.buildSlice, run_underlying ht, sizeOf, typeInfo, hie, newRow, Instr.fill]
      congr 2
      apply Array.ext'
      simp
    · refine run_buildSlice w t e len _ arr' ie zv ht hie hzz (by rw [hsz]; omega) (by rw [hsz]; intro e0; rcases Nat.mul_eq_zero.1 e0 with e0 | e0 <;> omega) ?_
      rw [hsz, Array.toList_map, ← g1]
      congr 1
      unfold Builtin.zeroCells
      rw [← hzr.1, hzl]
  refine ⟨arr', hrun, g2, ?_⟩
  have e1 := buildS_len cps _ _ hu
  rw [rep_length, hzl] at e1
  rw [← g2.1, e1]

theorem sim_bslice {o : Oper} {t e : TypeId} {len es : Nat} {parts : Array (Nat × Operand)} {z : List AV} {cps : List (Nat × CX)} (ho : o.op = .buildSlice t len parts) (ht : P.underlying t = some (.slice e)) (hs : sizeOf? P e = some es) (hz : zero? P e = some z) (hc : compPartsS parts.toList = some cps)
    (hl : len * es ≤ 16777216) (hzl : z.length = es) (hes : 0 < es) : SimO P Fb o (.bslice e es z len cps) := by
  intro m F f a H w v H' hf hw h
  simp only [evI] at h
  obtain ⟨cs', hu, hv⟩ := map_some h
  obtain ⟨arr', hrun, g2, g3⟩ := bslice_run hf w ht hs hz hc hl hzl hes hu
  have hgo : ∀ {m' : Mp} {F' : Fz} {v : AV} {H' : Hp}, VR m' F' v (.slice (some ⟨w.heap.size, 0, none⟩) len len) → WR P Fb m' F' H' (w.alloc (.cells arr' e)) → Gs m F H w m' F' H' (w.alloc (.cells arr' e)) →
      ∃ m' F' nx w', (execOp a.eval o).run P w = .ok nx w' ∧ NxR m' F' v nx ∧ WR P Fb m' F' H' w' ∧ Gs m F H w m' F' H' w' := by
    intro m' F' v H' q1 q2 q3
    exact ⟨m', F', .value (.slice (some ⟨w.heap.size, 0, none⟩) len len), _, by simp [execOp, ho, hrun, Result.andThen], .inl ⟨_, rfl, q1⟩, q2, q3⟩
  split at hv
  · rename_i h0
    cases hv
    obtain ⟨q1, q2⟩ := hw.pushJunk (.cells arr' e)
    subst h0
    exact hgo (.emp _) q1 q2
  · rename_i h0
    cases hv
    obtain ⟨q1, q2⟩ := hw.pushCells e cs' arr' g2.cell g2.1
    refine hgo (.sl es H.length 0 len _ _ len (upd_same _ _ _) (Nat.le_refl _) fun _ => ⟨rfl, ?_⟩) q1 q2
    show 0 + 0 + len * es ≤ arr'.size
    omega
end Go.EV

/- Append. -/
namespace Go.EV
open Go.RowKit
variable {P : Program} {Fb : Fz}

/-- A block dies. -/
theorem WR.kill {m : Mp} {F : Fz} {H : Hp} {w : World} (hw : WR P Fb m F H w) (b : Nat) : WR P Fb m F (H.set b .dead) w ∧ Gs m F H w m F (H.set b .dead) w := by
  have hmu : ∀ x, mutAt (H.set b .dead) x → mutAt H x := by
    rintro x ⟨k, hk, hm⟩
    by_cases e : b = x
    · subst e
      rw [List.getElem?_set] at hk
      rw [if_pos rfl] at hk
      split at hk
      · cases hk; exact hm.elim
      · cases hk
    · rw [List.getElem?_set_ne e] at hk; exact ⟨k, hk, hm⟩
  refine ⟨⟨hw.bs, hw.fz, fun x p h => ?_, fun b1 b2 q q' h1 h2 m1 m2 e => hw.inj b1 b2 q q' h1 h2 (hmu _ m1) (hmu _ m2) e, fun x p h hm => hw.fre x p h (hmu _ hm)⟩,
    ⟨MpLe.refl _, FzLe.refl _, fun b p h k => (by rw [h] at k; cases k), fun c x h k => (by rw [h] at k; cases k), fun _ _ _ h => hmu _ h, fun c hc _ => rfl, Nat.le_refl _, rfl, rfl, rfl, by simp, fun b p hn hp => (by rw [hp] at hn; cases hn), fun c r h => ⟨r, h, SameL.refl r⟩⟩⟩
  by_cases e : b = x
  · subst e
    exact ⟨.dead, by rw [List.getElem?_set_self (hw.lt h)], trivial⟩
  · obtain ⟨k, hk, hb⟩ := hw.blk x p h
    exact ⟨k, by rw [List.getElem?_set_ne e]; exact hk, hb⟩

theorem setCells_put : ∀ (vs : List Value) (c o : Nat) (arr : Array Value) (t : TypeId) (fr : Nat × Nat) (w : World), w.heap[c]? = some (.cells arr t fr) → o + vs.length ≤ arr.size → vs ≠ [] → w.setCells c o vs = w.putObj c (.cells (splice arr o vs) t fr)
  | [], _, _, _, _, _, _, _, _, h => absurd rfl h
  | [v], c, o, arr, t, fr, w, h, hl, _ => by
    rw [World.setCells, World.setCells, setCell_put h]
    congr 2
    apply Array.ext_getElem?
    intro k
    rw [splice_get hl]
    by_cases e : k = o
    · subst e
      have hk : k < arr.size := by simp at hl; omega
      rw [if_pos (by simp), Array.getElem?_setIfInBounds_self]
      simp [hk]
    · rw [Array.getElem?_setIfInBounds_ne (fun x => e x.symm), if_neg (by simp; omega)]
  | v :: v2 :: r, c, o, arr, t, fr, w, h, hl, _ => by
    have hc : c < w.heap.size := (Array.getElem?_eq_some_iff.1 h).1
    rw [World.setCells, setCell_put h, setCells_put (v2 :: r) c (o + 1) (arr.setIfInBounds o v) t fr _ (World.putObj_heap_same hc) (by simp at hl ⊢; omega) (by simp), putObj_put]
    congr 2
    apply Array.ext_getElem?
    intro k
    rw [splice_get (by simp at hl ⊢; omega), splice_get (by simpa using hl)]
    by_cases e : k = o
    · subst e
      rw [if_neg (by omega), if_pos (by simp), Array.getElem?_setIfInBounds_self]
      simp at hl ⊢
      omega
    · by_cases e2 : o + 1 ≤ k ∧ k < o + 1 + (v2 :: r).length
      · have e3 : k - o = (k - (o + 1)) + 1 := by omega
        rw [if_pos e2, if_pos (by simp at e2 ⊢; omega), e3, List.getElem?_cons_succ]
      · rw [if_neg e2, if_neg (by simp at e2 ⊢; omega), Array.getElem?_setIfInBounds_ne (fun x => e x.symm)]

/-- A block goes on in its spare room, under a new number. -/
theorem WR.move {m : Mp} {F : Fz} {H : Hp} {w : World} (hw : WR P Fb m F H w) {b st ty o n : Nat} {cs vs : List AV} {p : Pl} {us : List Value} (hm : m b = some p) (hb : H[b]? = some (.cells (st + 1) ty cs)) (hn : o + n ≤ cs.length) (hst : st = 0 ∨ o + n = cs.length)
    (hz : p.d + o + n + vs.length ≤ p.z) (hul : us.length = vs.length) (hv : ∀ (i : Nat) (v : AV) (u : Value), vs[i]? = some v → us[i]? = some u → VR m F v u) (hne : us ≠ []) (hsp : spec P ty = false) :
    let H' := H.set b .dead ++ [.cells (st + 1) ty ((cs.drop o).take n ++ vs)]
    let m' := upd m H.length ⟨p.c, p.d + o, n + vs.length, p.z⟩
    (∀ j, j < us.length → (w.cell? ⟨p.c, p.d + o + n + j, none⟩).isSome = true) ∧ (∀ j, j < us.length → w.frozen? ⟨p.c, p.d + o + n + j, none⟩ = false) ∧
    WR P Fb m' F H' (w.setCells p.c (p.d + o + n) us) ∧ Gs m F H w m' F H' (w.setCells p.c (p.d + o + n) us) := by
  intro H' m'
  obtain ⟨k, hk, hbr⟩ := hw.blk b p hm
  rw [hb] at hk; cases hk
  obtain ⟨hn', arr, lo, hi, h0, hh, h2, h3, h4, h5, h6, _⟩ := hbr
  replace hh := hh (by omega)
  replace h6 := h6 (by omega)
  have hmut : mutAt H b := ⟨_, hb, by simp [mutB]⟩
  have hlt : p.c < w.heap.size := hw.mutlt hm hmut
  have hle := upd_le ⟨p.c, p.d + o, n + vs.length, p.z⟩ hw.free
  have hF := hw.fre b p hm hmut
  rw [setCells_put us p.c (p.d + o + n) arr ty (lo, hi) w hh (by rw [h3, hul]; omega) hne]
  have hmu : ∀ x, mutAt H' x → x = H.length ∨ (mutAt H x ∧ x ≠ b) := by
    intro x hx
    rcases mutAt_push hx with ⟨e, _⟩ | ⟨k, hk, hmk⟩
    · exact .inl (by simpa using e)
    · by_cases e : b = x
      · subst e
        rw [List.getElem?_set, if_pos rfl] at hk
        split at hk
        · cases hk; exact hmk.elim
        · cases hk
      · rw [List.getElem?_set_ne e] at hk; exact .inr ⟨⟨k, hk, hmk⟩, fun h => e h.symm⟩
  have hHl : (H.set b .dead).length = H.length := by simp
  refine ⟨fun j hj => ?_, fun j hj => ?_, ⟨hw.bs, fun c x e => ?_, fun x q hx => ?_, fun b1 b2 q q' q1 q2 m1 m2 e => ?_, fun x q hx hmx => ?_⟩,
    ⟨hle, FzLe.refl _, fun x q hx hn => ?_, fun c x h hn => (by rw [h] at hn; cases hn), fun x q hx hmx => ?_, fun c hc hno => ?_, by simp [World.putObj], rfl, rfl, rfl, by simp [H'], fun x q hx hq => ?_, fun c r e => ⟨r, (putObj_ne w p.c _ (fun e2 => by subst e2; rw [hh] at e; cases e)).trans e, SameL.refl r⟩⟩⟩
  · rw [cell_of_cells hh, Array.getElem?_eq_getElem (by rw [h3]; omega)]; rfl
  · simp only [World.frozen?, hh, Bool.and_eq_false_iff, decide_eq_false_iff_not]
    rcases hst with rfl | hst
    · have := h5 rfl; omega
    · omega
  · exact (putObj_ne w p.c _ (fun e2 => by subst e2; rw [hF] at e; cases e)).trans (hw.fz c x e)
  · rcases upd_cases hx with ⟨rfl, rfl⟩ | ⟨hne2, hx⟩
    · refine ⟨_, by simp only [H']; rw [List.getElem?_append_right (by simp)]; simp; rfl, ?_⟩
      have hcl : ((cs.drop o).take n ++ vs).length = n + vs.length := by simp; omega
      refine ⟨hcl.symm, splice arr (p.d + o + n) us, lo, hi, (fun h => (by cases h)), fun _ => World.putObj_heap_same hlt, ?_, ?_, fun i v e => ?_, h5, fun _ => ?_, fun e => by rw [hsp] at e; cases e⟩
      · rw [hcl, splice_size (by rw [h3, hul]; omega), h3]
        show p.d + o + (n + vs.length) ≤ p.z
        omega
      · rw [splice_size (by rw [h3, hul]; omega)]; exact h3
      · show ∃ v', (splice arr (p.d + o + n) us)[p.d + o + i]? = some v' ∧ _
        rw [splice_get (by rw [h3, hul]; omega)]
        by_cases hi2 : i < n
        · rw [List.getElem?_append_left (by simp; omega), List.getElem?_take_of_lt hi2, List.getElem?_drop] at e
          rw [if_neg (by omega)]
          obtain ⟨v', a, b'⟩ := h4 (o + i) v e
          exact ⟨v', by rw [Nat.add_assoc]; exact a, b'.mono hle (FzLe.refl _)⟩
        · rw [List.getElem?_append_right (by simp; omega)] at e
          have e5 : i - ((cs.drop o).take n).length = i - n := by simp; omega
          rw [e5] at e
          have hiv := (List.getElem?_eq_some_iff.1 e).1
          rw [if_pos (by rw [hul]; omega)]
          obtain ⟨u, hu⟩ : ∃ u, us[i - n]? = some u := ⟨_, List.getElem?_eq_getElem (by rw [hul]; exact hiv)⟩
          exact ⟨u, by rw [show p.d + o + i - (p.d + o + n) = i - n by omega]; exact hu, (hv _ _ _ e hu).mono hle (FzLe.refl _)⟩
      · rw [hcl]
        show lo = hi ∨ hi ≤ p.d + o + (n + vs.length)
        rcases hst with rfl | hst
        · exact .inl (h5 rfl)
        · omega
    · obtain ⟨k', hk', hbr'⟩ := hw.blk x q hx
      by_cases e : b = x
      · subst e
        exact ⟨.dead, by simp only [H']; rw [List.getElem?_append_left (by simpa using hw.lt hx), List.getElem?_set_self (hw.lt hx)], trivial⟩
      · refine ⟨k', by simp only [H']; rw [List.getElem?_append_left (by simpa using hw.lt hx), List.getElem?_set_ne e]; exact hk', BR.mono hle (FzLe.refl _) (fun hmk => putObj_ne w p.c _ (fun ec => e ?_)) hbr'⟩
        exact (hw.inj x b q p hx hm ⟨k', hk', hmk⟩ hmut ec).symm
  · have key : ∀ {x : Nat} {q : Pl}, m' x = some q → mutAt H' x → (x = H.length ∧ q.c = p.c) ∨ (m x = some q ∧ mutAt H x ∧ x ≠ b) := by
      intro x q hx hmx
      rcases hmu x hmx with rfl | ⟨h1, h2⟩
      · rcases upd_cases hx with ⟨_, rfl⟩ | ⟨h3, _⟩
        · exact .inl ⟨rfl, rfl⟩
        · exact absurd rfl h3
      · rcases upd_cases hx with ⟨rfl, _⟩ | ⟨_, h3⟩
        · obtain ⟨k, hk, _⟩ := h1; rw [List.getElem?_eq_none (Nat.le_refl _)] at hk; cases hk
        · exact .inr ⟨h3, h1, h2⟩
    rcases key q1 m1 with ⟨rfl, e1⟩ | ⟨a1, a2, a3⟩ <;> rcases key q2 m2 with ⟨rfl, e2⟩ | ⟨c1, c2, c3⟩
    · rfl
    · exact absurd (hw.inj _ _ _ _ c1 hm c2 hmut (by rw [← e, e1])) c3
    · exact absurd (hw.inj _ _ _ _ a1 hm a2 hmut (by rw [e, e2])) a3
    · exact hw.inj _ _ _ _ a1 c1 a2 c2 e
  · rcases hmu x hmx with rfl | ⟨h1, h2⟩
    · rcases upd_cases hx with ⟨_, rfl⟩ | ⟨h3, _⟩
      · exact hF
      · exact absurd rfl h3
    · rcases upd_cases hx with ⟨_, rfl⟩ | ⟨_, h3⟩
      · exact hF
      · exact hw.fre x q h3 h1
  · rcases upd_cases hx with ⟨_, rfl⟩ | ⟨_, h3⟩
    · exact .inr ⟨b, p, hm, rfl, hmut⟩
    · rw [h3] at hn; cases hn
  · rcases hmu x hmx with rfl | ⟨h1, h2⟩
    · rw [hw.free] at hx; cases hx
    · exact h1
  · exact putObj_ne w p.c _ (fun e => hno b p hm e.symm hmut)
  · rcases upd_cases hq with ⟨rfl, rfl⟩ | ⟨_, h3⟩
    · exact ⟨Nat.le_refl _, by simp [H']⟩
    · rw [h3] at hx; cases hx
end Go.EV

/- Append, put together. -/
namespace Go.EV
open Go.RowKit
variable {P : Program} {Fb : Fz}

theorem all_one_us {m : Mp} {F : Fz} {vs : List AV} {us : List Value} (hl : us.length = vs.length) (h : ∀ (i : Nat) (v : AV) (u : Value), vs[i]? = some v → us[i]? = some u → VR m F v u) (h1 : vs.all AV.one = true) : ∀ u ∈ us, u.oneCell' = true := by
  intro u hu
  obtain ⟨i, hi, rfl⟩ := List.getElem_of_mem hu
  have hv : i < vs.length := by omega
  exact one_of (h i vs[i] _ (List.getElem?_eq_getElem hv) (List.getElem?_eq_getElem hi)) (List.all_eq_true.1 h1 _ (List.getElem_mem hv))

theorem grow_fits {need old bytes : Nat} (h : old < need) (hn : need ≤ mxLen) (hb : bytes ≤ 1024) : Builtin.nextslicecap need old * bytes ≤ 281474976710656 := by
  refine growslice_fits h ?_
  have : need * bytes ≤ mxLen * 1024 := Nat.mul_le_mul hn hb
  unfold mxLen at this
  omega

theorem sim_append {o : Oper} {c : Call} {sx xx : Operand} {t u e : TypeId} {cs cx : CX} {es bs : Nat} {z : List AV} (ho : o.op = .call c) (hb : c.callee = .builtin .append) (hargs : c.args.toList = [sx, xx]) (htys : c.argTypes.toList = [t, u]) (hsx : compX sx = some cs) (hxx : compX xx = some cx)
    (ht : P.underlying t = some (.slice e)) (hu : (∃ e', P.underlying u = some (.slice e')) ∨ P.underlying u = some .string) (hsz : sizeOf? P e = some es) (hbz : bytesOf? P e = some bs) (hz : zero? P e = some z) (hes : 0 < es) (hbs : bs ≤ 1024) (hzl : z.length = es) (hsp : spec P e = false) :
    SimO P Fb o (.append e es cs cx) := by
  intro m F f a H w v H' hf hw h
  have h1 := compX_rel hf hsx
  have h2 := compX_rel hf hxx
  simp only [evI] at h
  generalize cs.ev f = av at h1 h
  generalize hax : a.eval sx = vs at h1
  generalize cx.ev f = au at h2 h
  generalize hay : a.eval xx = vx at h2
  unfold evAppend at h
  split at h
  · cases h
  rename_i new hnew
  obtain ⟨us, u1, u2, u3, u4, u5⟩ := elems_rel hw h2 hnew hes
  obtain ⟨zv, z1, z2⟩ := zero?_rel hz
  obtain ⟨i, hi, hsi⟩ : ∃ i, P.info? e = some i ∧ i.size = es := map_some hsz
  have hzi : i.zero = some zv := by rw [hi] at z1; exact z1
  have hbi : i.bytes = bs := by unfold bytesOf? at hbz; rw [hi] at hbz; exact Option.some.inj hbz
  have hzs : zv.cells.size = es := by rw [← hzl]; exact (avL_VRL (m := m) (F := F) z2).1.symm
  have src : (∀ x ∈ us, x.oneCell' = true) → Src P i.size u vx new.length us w := by
    intro hone
    rw [hsi]
    rcases u5 with ⟨rfl, rfl⟩ | ⟨A, cap, rfl, hcell⟩ | ⟨b, rfl, he1, rfl, hlen⟩
    · have hus : us = [] := List.eq_nil_of_length_eq_zero (by rw [u1]; rfl)
      subst hus
      exact ⟨hu, fun _ => rfl, run_firstCells_none w es 0 0 0, run_firstCells_none w.drew es 0 0 0, by simp, hone⟩
    · have hl : us.length = new.length * es := by rw [u1, u3]
      exact ⟨hu, fun _ => rfl, run_firstCells_some w es new.length A _ cap us hl hcell, run_firstCells_some w.drew es new.length A _ cap us hl (by simpa using hcell), hl, hone⟩
    · subst he1
      rw [hlen]
      exact ⟨hu, fun _ => rfl, firstCells_string b w, firstCells_string b w.drew, by rw [byteCells_length, Nat.mul_one], hone⟩
  have fin : ∀ {r : Value} {w' : World} {m' : Mp} {F' : Fz} {v : AV} {H' : Hp}, (Builtin.append_ #[t, u] o.type #[vs, vx]).run P w = .ok r w' → VR m' F' v r → WR P Fb m' F' H' w' → Gs m F H w m' F' H' w' → ∃ m' F' nx w', (execOp a.eval o).run P w = .ok nx w' ∧ NxR m' F' v nx ∧ WR P Fb m' F' H' w' ∧ Gs m F H w m' F' H' w' := by
    intro r w' m' F' v H' hr q1 q2 q3
    refine ⟨m', F', .value r, w', ?_, .inl ⟨_, rfl, q1⟩, q2, q3⟩
    rw [exec_builtin ho hb, toList_two htys, toList_two hargs]
    simp [builtin, hax, hay, hr, Result.andThen]
  have nothing : new.isEmpty = true → ∀ {base : Option Addr} {len cap : Nat}, vs = .slice base len cap → len ≤ cap → (Builtin.append_ #[t, u] o.type #[vs, vx]).run P w = .ok vs w := by
    intro hnn base len cap e1 e2
    obtain rfl : new = [] := List.isEmpty_iff.1 hnn
    obtain rfl : us = [] := List.eq_nil_of_length_eq_zero (by rw [u1]; rfl)
    subst e1
    exact run_append_nothing w t u o.type e i ht hi base len cap e2 vx (src (fun x hx => by simp at hx))
  -- it grows: a new row
  have grows : ∀ {base : Option Addr} {len cap : Nat} {olds : List AV} {ous : List Value} {st : Nat} {H0 : Hp}, vs = .slice base len cap → len ≤ cap → cap < len + new.length → len + new.length ≤ mxLen → new.flatten.all AV.one = true →
      (Builtin.firstCells i.size len (.slice base len cap)).run P w.drew = .ok ous.toArray w.drew → ous.length = olds.length → olds.length = len * es → (∀ (k : Nat) (x : AV) (y : Value), olds[k]? = some x → ous[k]? = some y → VR m F x y) → WR P Fb m F H0 w → Gs m F H w m F H0 w → H0.length = H.length →
      ∃ m' F' nx w', (execOp a.eval o).run P w = .ok nx w' ∧ NxR m' F' (.sl es H.length 0 (len + new.length)) nx ∧ WR P Fb m' F' (H0 ++ [.cells (st + 1) e (olds ++ new.flatten)]) w' ∧ Gs m F H w m' F' (H0 ++ [.cells (st + 1) e (olds ++ new.flatten)]) w' := by
    intro base len cap olds ous st H0 e1 e2 e3 e4 e5 e6 e7 e8 e9 hw0 hg0 hlen0
    subst e1
    have hone := all_one_us u1 u2 e5
    have hcl : len + new.length ≤ 9223372036854775807 := by unfold mxLen at e4; omega
    have hrun := run_append_grow_src w t u o.type e i zv ht hi hzi base len cap ous e6 vx new.length us (src hone) e3 (by omega) (by rw [hbi]; exact grow_fits e3 e4 hbs)
    generalize hg : grownCap w (len + new.length) cap e = g at hrun
    have hge : len + new.length ≤ g := by rw [← hg]; exact grownCap_ge w _ cap e
    obtain ⟨w1, g1⟩ := hw0.drew
    have hal : (olds ++ new.flatten).length = (len + new.length) * es := by rw [List.length_append, e8, u3, Nat.add_mul]
    have hals : ((ous ++ us).toArray ++ Builtin.zeroCells zv.cells (g - (len + new.length))).size = g * es := by
      rw [Array.size_append, size_zeroCells, hzs]
      simp only [List.size_toArray, List.length_append, e7, u1]
      rw [← List.length_append, hal, ← Nat.add_mul]
      congr 1; omega
    obtain ⟨w2, g2⟩ := w1.push (.cells (st + 1) e (olds ++ new.flatten)) (.cells ((ous ++ us).toArray ++ Builtin.zeroCells zv.cells (g - (len + new.length))) e) ⟨w.heap.size, 0, (olds ++ new.flatten).length, g * es⟩ rfl
      ⟨rfl, _, 0, 0, (fun h => (by cases h)), fun _ => heap_alloc_at w.drew _, by rw [hals, hal]; simp only [Nat.zero_add]; exact Nat.mul_le_mul_right _ hge, hals, fun k x ek => by
        have hk := (List.getElem?_eq_some_iff.1 ek).1
        have hk2 : k < (ous ++ us).length := by rw [List.length_append] at hk ⊢; omega
        rw [Nat.zero_add]
        refine ⟨(ous ++ us)[k], by rw [Array.getElem?_append_left (by simpa using hk2)]; simp, ?_⟩
        refine VR.mono (upd_le _ w1.free) (FzLe.refl _) ?_
        by_cases hko : k < olds.length
        · rw [List.getElem?_append_left hko] at ek
          exact e9 k x _ ek (by rw [List.getElem_append_left (by omega)]; exact List.getElem?_eq_getElem _)
        · rw [List.getElem?_append_right (by omega)] at ek
          refine u2 (k - olds.length) x _ ek ?_
          rw [List.getElem_append_right (by omega)]
          simp only [e7]
          exact List.getElem?_eq_getElem _, fun _ => rfl, fun _ => .inl rfl, fun e => by rw [hsp] at e; cases e⟩
    refine fin hrun ?_ w2 ((hg0.trans g1).trans g2)
    have := VR.sl (m := upd m H0.length ⟨w.heap.size, 0, (olds ++ new.flatten).length, g * es⟩) (F := F) es H.length 0 (len + new.length) ⟨w.heap.size, 0, (olds ++ new.flatten).length, g * es⟩ ⟨w.heap.size, 0, none⟩ g (by rw [← hlen0]; exact upd_same _ _ _) hge (fun _ => ⟨rfl, by simp⟩)
    exact this
  cases h1 <;> first | (cases h; done) | skip
  · -- nil
    simp only at h
    split at h
    · rename_i hne
      cases h
      exact fin (nothing hne rfl (Nat.le_refl _)) .nils hw (Gs.refl ..)
    · rename_i hne
      split at h
      · rename_i hc
        cases h
        have hpos : 0 < new.length := by cases new with | nil => exact absurd rfl hne | cons => simp
        have := grows (st := 0) (H0 := H) (olds := []) (ous := []) rfl (Nat.le_refl _) (by omega) (by omega) hc.2 (run_firstCells_none w.drew i.size 0 0 0) rfl (by simp) (fun k x y e => by simp at e) hw (Gs.refl ..) rfl
        simpa using this
      · cases h
  · -- empty
    rename_i A
    simp only at h
    split at h
    · rename_i hne
      cases h
      exact fin (nothing hne rfl (Nat.le_refl _)) (.emp A) hw (Gs.refl ..)
    · rename_i hne
      split at h
      · rename_i hc
        cases h
        have hpos : 0 < new.length := by cases new with | nil => exact absurd rfl hne | cons => simp
        have := grows (st := 0) (H0 := H) (olds := []) (ous := []) rfl (Nat.le_refl _) (by omega) (by omega) hc.2 (run_firstCells_some w.drew i.size 0 A 0 0 [] (by simp) (fun j v e => by simp at e)) rfl (by simp) (fun k x y e => by simp at e) hw (Gs.refl ..) rfl
        simpa using this
      · cases h
  · -- an own slice
    rename_i es' b off len p A cap hm hl ha
    simp only at h
    split at h
    · rename_i hee
      subst hee
      split at h
      · rename_i hne
        cases h
        exact fin (nothing hne rfl hl) (.sl es' b off len p A cap hm hl ha) hw (Gs.refl ..)
      · rename_i hne
        split at h
        · rename_i hc
          split at h
          · rename_i st ty' cells hbb
            split at h
            · rename_i hcc
              obtain ⟨rfl, hle, hst⟩ := hcc
              cases h
              have hpos : 0 < new.length := by cases new with | nil => exact absurd rfl hne | cons => simp
              have hone := all_one_us u1 u2 hc.2
              by_cases hroom : len + new.length ≤ cap
              · obtain ⟨rfl, hz2⟩ := ha (by omega)
                have hmul : len * es' + new.length * es' ≤ cap * es' := by rw [← Nat.add_mul]; exact Nat.mul_le_mul_right _ hroom
                obtain ⟨q1, q2, q3, q4⟩ := hw.move hm hbb (o := off) (n := len * es') (vs := new.flatten) (us := us) hle hst (by rw [u3]; omega) u1 u2 (by
                  intro e0; rw [e0] at u1; have : 0 < new.length * es' := Nat.mul_pos hpos hes; rw [u3] at u1; simp at u1; omega) hsp
                have hrun := run_append_room_src w t u o.type ty' i ht hi p.c (p.d + off) len cap vx new.length us (src hone) hroom (by rw [hsi]; exact q1) (by rw [hsi]; exact q2)
                rw [hsi] at hrun
                refine fin hrun ?_ q3 q4
                refine VR.sl es' H.length 0 (len + new.length) _ _ cap (upd_same _ _ _) hroom (fun _ => ⟨rfl, ?_⟩)
                show p.d + off + 0 + cap * es' ≤ p.z
                omega
              · obtain ⟨k1, k2⟩ := hw.kill b
                have hcl := ptr_cells hw hm hbb
                have hcells : ∀ (j : Nat) (x : AV), ((cells.drop off).take (len * es'))[j]? = some x → ∃ y, w.cell? (A.add j) = some y ∧ VR m F x y := by
                  intro j x ej
                  have hj : j < len * es' := by
                    have := (List.getElem?_eq_some_iff.1 ej).1
                    simp at this; omega
                  rw [List.getElem?_take_of_lt hj, List.getElem?_drop] at ej
                  obtain ⟨y, y1, y2⟩ := hcl (off + j) x ej
                  have hcap : cap ≠ 0 := by
                    intro e0
                    have : len = 0 := by omega
                    subst this
                    simp at hj
                  obtain ⟨rfl, _⟩ := ha hcap
                  exact ⟨y, by rw [Addr.add_lit, Nat.add_assoc]; exact y1, y2⟩
                have holl : ((cells.drop off).take (len * es')).length = len * es' := by simp; omega
                let ous : List Value := (List.range (len * es')).map fun j => (w.cell? (A.add j)).getD undef
                have hous : ous.length = len * es' := by simp [ous]
                have hog : ∀ (j : Nat) (y : Value), ous[j]? = some y → w.cell? (A.add j) = some y ∧ ∃ x, ((cells.drop off).take (len * es'))[j]? = some x ∧ VR m F x y := by
                  intro j y ej
                  have hj : j < len * es' := by rw [← hous]; exact (List.getElem?_eq_some_iff.1 ej).1
                  obtain ⟨y', y1, y2⟩ := hcells j _ (List.getElem?_eq_getElem (by rw [holl]; exact hj))
                  simp only [ous, List.getElem?_map, List.getElem?_range hj, Option.map_some, Option.some.injEq] at ej
                  rw [y1] at ej
                  have : y' = y := ej
                  subst this
                  exact ⟨y1, _, List.getElem?_eq_getElem (by rw [holl]; exact hj), y2⟩
                have := grows (st := st) (H0 := H.set b .dead) (olds := (cells.drop off).take (len * es')) (ous := ous) rfl hl (by omega) hc.1 hc.2
                  (run_firstCells_some w.drew i.size len A len cap ous (by rw [hous, hsi]) (fun j y ej => by simpa using (hog j y ej).1)) (by rw [hous, holl]) holl
                  (fun k x y e1 e2 => by
                    obtain ⟨_, x', q1, q2⟩ := hog k y e2
                    rw [e1] at q1; cases q1; exact q2) k1 k2 (by simp)
                exact this
            · cases h
          · cases h
        · cases h
    · cases h
end Go.EV

/- Every single operation. -/
namespace Go.EV
open Go.RowKit
variable {P : Program} {Fb : Fz}

theorem sim_bad {o : Oper} : SimO P Fb o .bad := by
  intro m F f a H w v H' hf hw h
  cases h
theorem sim_call {o : Oper} {g : CX} {as : List CX} : SimO P Fb o (.call g as) := by
  intro m F f a H w v H' hf hw h
  cases h
theorem sim_slices' {o : Oper} {t : TypeId} {x : Operand} {lo hi mx : Option Operand} {cx : CX} {cl ch : Option CX} (ho : o.op = .slice t x lo hi mx) (hm : compO mx = some none) (ht : P.underlying t = some .string) (hx : compX x = some cx)
    (hl : compO lo = some cl) (hh : compO hi = some ch) : SimO P Fb o (.slices cx cl ch) := by
  cases mx with
  | none => exact sim_slices ho ht hx hl hh
  | some y =>
    simp only [compO] at hm
    obtain ⟨c, _, hc⟩ := map_some hm; cases hc
theorem sim_compI0 {o : Oper} {i : CI} (h : compI0 P o = some i) : SimO P Fb o i := by
  unfold compI0 at h
  split at h
  · obtain ⟨c, h1, rfl⟩ := map_some h; exact sim_mv (.inl ‹_›) h1
  · obtain ⟨c, h1, rfl⟩ := map_some h; exact sim_mv (.inr ‹_›) h1
  · split at h
    · cases h; exact sim_pick ‹_› ‹_› ‹_› ‹_›
    · cases h
  · obtain ⟨c, h1, rfl⟩ := map_some h; exact sim_alloc ‹_› h1
  · obtain ⟨c, h1, rfl⟩ := map_some h; exact sim_box ‹_› h1
  · -- build
    split at h
    · split at h
      · cases h; exact sim_build ‹_› ‹_› ‹_› ‹_› ‹_›
      · cases h
    · cases h
  · -- slice literal
    split at h
    · split at h
      · split at h
        · rename_i hc
          cases h; exact sim_bslice ‹_› ‹_› ‹_› ‹_› ‹_› hc.1 hc.2.1 hc.2.2
        · cases h
      · cases h
    · cases h
  · split at h
    · cases h; exact sim_load ‹_› ‹_› ‹_›
    · cases h
  · split at h
    · cases h; exact sim_store ‹_› ‹_› ‹_› ‹_›
    · cases h
  · obtain ⟨c, h1, rfl⟩ := map_some h; exact sim_nilck ‹_› h1
  · split at h
    · cases h; exact sim_bin ‹_› ‹_› ‹_› ‹_›
    · cases h
  · obtain ⟨c, h1, rfl⟩ := map_some h; exact sim_un ‹_› h1
  · -- convert
    split at h
    · cases h; exact sim_toint ‹_› ‹_› ‹_› ‹_›
    · cases h; exact sim_same ‹_› ‹_› ‹_› ‹_›
    · split at h
      · cases h; exact sim_s2b ‹_› ‹_› ‹_› ‹_› ‹_›
      · cases h
    · split at h
      · cases h; exact sim_b2s ‹_› ‹_› ‹_› ‹_› ‹_›
      · cases h
    · cases h
  · -- an interface's value
    split at h
    · cases h
    · cases h
      refine sim_mkif ‹_› ‹_› ?_ ‹_›
      intro ms e
      subst e
      first
        | (rename_i hn _ _ _; exact hn _ rfl; done)
        | (rename_i hn _ _ _ _; exact hn _ rfl; done)
        | (rename_i hn _; exact hn _ rfl; done)
        | (rename_i hn; exact hn _ rfl; done)
    · cases h
  · split at h
    · rename_i he
      obtain ⟨c, h1, rfl⟩ := map_some h
      exact sim_mkfn ‹_› he h1
    · cases h
  · cases h; exact sim_mkmap ‹_›
  · -- slices
    split at h
    · split at h
      · split at h
        · rename_i hc
          cases h; exact sim_slice ‹_› ‹_› ‹_› hc.1 ‹_› ‹_› ‹_› ‹_› hc.2
        · cases h
      · cases h
    · rename_i hmx
      cases h
      exact sim_slices' ‹_› hmx ‹_› ‹_› ‹_› ‹_›
    · cases h
  · -- a field's address
    split at h
    · split at h
      · split at h
        · cases h; exact sim_faddr ‹_› ‹_› ‹_› ‹_› ‹_›
        · cases h
      · cases h
    · cases h
  · split at h
    · split at h
      · split at h
        · cases h; exact sim_field ‹_› ‹_› ‹_› ‹_› ‹_›
        · cases h
      · cases h
    · cases h
  · -- places by number
    split at h
    · split at h
      · split at h
        · cases h; exact sim_iaddr ‹_› ‹_› ‹_› ‹_› ‹_› ‹_›
        · cases h
      · cases h
    · split at h
      · split at h
        · cases h; exact sim_iaddrA ‹_› ‹_› ‹_› ‹_› ‹_›
        · cases h
      · cases h
    · cases h
  · split at h
    · cases h; exact sim_index ‹_› ‹_› ‹_› ‹_›
    · cases h
  · obtain ⟨c, h1, rfl⟩ := map_some h; exact sim_ext ‹_› h1
  · -- lookup
    split at h
    · split at h
      · cases h; exact sim_lookup ‹_› ‹_› ‹_› (.inl ⟨rfl, rfl⟩) ‹_› ‹_› ‹_›
      · cases h; exact sim_lookup ‹_› ‹_› ‹_› (.inr ⟨⟨_, rfl⟩, rfl⟩) ‹_› ‹_› ‹_›
      · cases h
    · cases h
  · split at h
    · split at h
      · cases h; exact sim_mapup ‹_› ‹_› ‹_› (.inl ⟨rfl, rfl⟩) ‹_› ‹_› ‹_›
      · cases h; exact sim_mapup ‹_› ‹_› ‹_› (.inr ⟨⟨_, rfl⟩, rfl⟩) ‹_› ‹_› ‹_›
      · cases h
    · cases h
  · -- calls
    split at h
    · split at h
      · cases h; exact sim_call
      · cases h
    · split at h
      · split at h
        · cases h; exact sim_len ‹_› ‹_› ‹_› ‹_› ‹_› (.inl ⟨rfl, ‹_›⟩)
        · cases h; exact sim_len ‹_› ‹_› ‹_› ‹_› ‹_› (.inr (.inl ⟨rfl, _, ‹_›⟩))
        · cases h; exact sim_len ‹_› ‹_› ‹_› ‹_› ‹_› (.inr (.inr ⟨rfl, _, _, ‹_›⟩))
        · cases h
      · cases h
    · split at h
      · split at h
        · split at h
          · split at h
            · rename_i hc
              cases h; exact sim_append ‹_› ‹_› ‹_› ‹_› ‹_› ‹_› ‹_› (.inl ⟨_, ‹_›⟩) ‹_› ‹_› ‹_› hc.1.1 hc.1.2.2.1 hc.1.2.2.2 hc.2
            · cases h
          · cases h
        · split at h
          · split at h
            · rename_i hc
              cases h; exact sim_append ‹_› ‹_› ‹_› ‹_› ‹_› ‹_› ‹_› (.inr ‹_›) ‹_› ‹_› ‹_› (by have := hc.1.1; omega) hc.1.2.2.1 hc.1.2.2.2 hc.2
            · cases h
          · cases h
        · cases h
      · cases h
    · split at h
      · split at h
        · split at h
          · split at h
            · rename_i hc
              cases h; exact sim_clear ‹_› ‹_› ‹_› ‹_› ‹_› ‹_› ‹_› hc.1 hc.2
            · cases h
          · cases h
        · cases h
      · cases h
    · split at h
      · split at h
        · cases h; exact sim_minmax (mx := true) ‹_› ‹_› ‹_› ‹_› ‹_›
        · cases h
      · cases h
    · split at h
      · split at h
        · cases h; exact sim_minmax (mx := false) ‹_› ‹_› ‹_› ‹_› ‹_›
        · cases h
      · cases h
    · cases h
  · cases h
theorem sim_compI (o : Oper) : SimO P Fb o (compI P o) := by
  unfold compI
  cases h : compI0 P o with
  | none => exact sim_bad
  | some i => exact sim_compI0 h
end Go.EV
