/- What an operation reads; one operation in the walk. -/
import Derived.Test.YtkcabichlinkmaaGreatDoorHM3
namespace Go.EV
open Go.RowKit
variable {P : Program} {Fb : Fz}

/-! ## What is read -/
theorem CX.ev_congr {f f' : Fr} {x : CX} (h : ∀ p ∈ x.ps, f.get p = f'.get p) : x.ev f = x.ev f' := by
  cases x with
  | t p => simp only [CX.ev]; rw [h p (by simp [CX.ps])]
  | c v => rfl
theorem optOf_congr {f f' : Fr} {d : Nat} {x : Option CX} (h : ∀ p ∈ optPs x, f.get p = f'.get p) : optOf f d x = optOf f' d x := by
  cases x with
  | none => rfl
  | some x => simp only [optOf]; rw [CX.ev_congr h]
theorem evBuild_congr {f f' : Fr} : ∀ (l : List (Nat × Nat × CX)) (cs : List AV), (∀ p ∈ l.flatMap (fun (_, _, x) => x.ps), f.get p = f'.get p) → evBuild f l cs = evBuild f' l cs
  | [], _, _ => rfl
  | (o, n, x) :: r, cs, h => by
    simp only [List.flatMap_cons, List.mem_append] at h
    simp only [evBuild]
    rw [CX.ev_congr (fun p hp => h p (.inl hp))]
    cases putPart cs o n (x.ev f') with
    | none => rfl
    | some cs => exact evBuild_congr r cs (fun p hp => h p (.inr hp))
theorem evBuildS_congr {f f' : Fr} {es : Nat} : ∀ (l : List (Nat × CX)) (cs : List AV), (∀ p ∈ l.flatMap (fun (_, x) => x.ps), f.get p = f'.get p) → evBuildS f es l cs = evBuildS f' es l cs
  | [], _, _ => rfl
  | (i, x) :: r, cs, h => by
    simp only [List.flatMap_cons, List.mem_append] at h
    simp only [evBuildS]
    rw [CX.ev_congr (fun p hp => h p (.inl hp))]
    cases putPart cs (i * es) es (x.ev f') with
    | none => rfl
    | some cs => exact evBuildS_congr r cs (fun p hp => h p (.inr hp))
theorem evs_congr {f f' : Fr} : ∀ (l : List CX), (∀ p ∈ l.flatMap CX.ps, f.get p = f'.get p) → l.map (·.ev f) = l.map (·.ev f')
  | [], _ => rfl
  | x :: r, h => by
    simp only [List.flatMap_cons, List.mem_append] at h
    simp only [List.map_cons]
    rw [CX.ev_congr (fun p hp => h p (.inl hp)), evs_congr r (fun p hp => h p (.inr hp))]
theorem evI_congr {f f' : Fr} {H : Hp} {i : CI} (h : ∀ p ∈ i.ps, f.get p = f'.get p) : evI f H i = evI f' H i := by
  cases i with
  | build z l => simp only [evI]; rw [evBuild_congr l z h]
  | bslice ty es z n l => simp only [evI]; rw [evBuildS_congr l _ h]
  | mkfn g l => simp only [evI]; rw [evs_congr l h]
  | slice es x a b c =>
    simp only [CI.ps, List.mem_append] at h
    simp only [evI]
    rw [CX.ev_congr (fun p hp => h p (.inl (.inl (.inl hp))))]
    cases evLen H (x.ev f') with
    | none => rfl
    | some n =>
      simp only
      rw [optOf_congr (fun p hp => h p (.inl (.inl (.inr hp)))), optOf_congr (x := b) (fun p hp => h p (.inl (.inr hp)))]
      cases c with
      | none => rfl
      | some c => simp only; rw [CX.ev_congr (x := c) (fun p hp => h p (.inr hp))]
  | slices x a b =>
    simp only [CI.ps, List.mem_append] at h
    simp only [evI]
    rw [CX.ev_congr (fun p hp => h p (.inl (.inl hp)))]
    cases x.ev f' <;> first | rfl | skip
    simp only
    rw [optOf_congr (fun p hp => h p (.inl (.inr hp))), optOf_congr (x := b) (fun p hp => h p (.inr hp))]
  | pick a b c =>
    simp only [CI.ps, List.mem_append] at h
    simp only [evI]
    rw [CX.ev_congr (x := a) (fun p hp => h p (.inl (.inl hp))), CX.ev_congr (x := b) (fun p hp => h p (.inl (.inr hp))), CX.ev_congr (x := c) (fun p hp => h p (.inr hp))]
  | mapup k a b c =>
    simp only [CI.ps, List.mem_append] at h
    simp only [evI]
    rw [CX.ev_congr (x := a) (fun p hp => h p (.inl (.inl hp))), CX.ev_congr (x := b) (fun p hp => h p (.inl (.inr hp))), CX.ev_congr (x := c) (fun p hp => h p (.inr hp))]
  | alloc _ _ => rfl
  | mkmap => rfl
  | call _ _ => rfl
  | bad => rfl
  | store n x y | bin o k x y | iaddr es x y | iaddrA n es x y | index x y | append ty es x y | lookup ks z ok x y | minmax mx x y =>
    simp only [CI.ps, List.mem_append] at h
    simp only [evI]
    rw [CX.ev_congr (x := x) (fun p hp => h p (.inl hp)), CX.ev_congr (x := y) (fun p hp => h p (.inr hp))]
  | _ => simp only [evI]; rw [CX.ev_congr h]
theorem evCO_congr {rec : Task → Res} {f f' : Fr} {H : Hp} {o : CO} (h : ∀ p ∈ o.ins.ps, f.get p = f'.get p) : evCO rec o f H = evCO rec o f' H := by
  unfold evCO
  cases hi : o.ins with
  | call g l =>
    rw [hi] at h
    simp only [CI.ps, List.mem_append] at h
    simp only
    rw [CX.ev_congr (fun p hp => h p (.inl hp)), evs_congr l (fun p hp => h p (.inr hp))]
  | _ => rw [hi] at h; exact evI_congr h

/-- What neither makes a block nor changes nor looks into the heap. -/
def CI.still (i : CI) : Bool := !i.eff && !i.makes && !i.reads && !i.peeks
theorem still_any {f : Fr} {H H1 : Hp} {i : CI} {v : AV} (hs : i.still = true) (h : evI f H i = some (v, H1)) : H1 = H ∧ ∀ H', evI f H' i = some (v, H') := by
  cases i <;> first | (cases hs; done) | skip
  case slice es x a b c =>
    simp only [evI] at h ⊢
    generalize x.ev f = cv at h ⊢
    have hl : ∀ {n}, evLen H cv = some n → (∃ b, cv = .map b) ∨ ∀ H', evLen H' cv = some n := by
      intro n e
      cases cv <;> first | exact .inl ⟨_, rfl⟩ | exact .inr fun H' => e | cases e
    split at h
    · rename_i n hn
      rcases hl hn with ⟨b', rfl⟩ | hl
      · split at h
        · split at h
          · obtain ⟨u, hu, _⟩ := map_some h; cases hu
          · split at h
            · obtain ⟨u, hu, _⟩ := map_some h; cases hu
            · cases h
        · cases h
      · simp only [hl]
        split at h
        · rename_i la ha e1 e2
          split at h
          · obtain ⟨u, hu, hv⟩ := map_some h
            cases hv
            exact ⟨rfl, fun H' => by simp [hu]⟩
          · rename_i mx
            split at h
            · rename_i k hk
              obtain ⟨u, hu, hv⟩ := map_some h
              cases hv
              exact ⟨rfl, fun H' => by simp [hu]⟩
            · cases h
        · cases h
    · cases h
  case len k x =>
    simp only [evI] at h ⊢
    generalize x.ev f = cv at h ⊢
    split at h
    · rename_i hok
      obtain ⟨n, hn, hv⟩ := map_some h
      cases hv
      refine ⟨rfl, fun H' => ?_⟩
      have hk : k ≠ 2 := by rintro rfl; cases hs
      cases cv <;> first | (simp only [evLen] at hn ⊢; rw [hn]; rfl) | skip
      · match k, hk, hok with
        | 0, _, hok => cases hok
        | 1, _, hok => cases hok
        | 2, hk, _ => exact absurd rfl hk
        | k + 3, _, hok => cases hok
    · cases h
  all_goals
    simp only [evI] at h ⊢
    repeat' split at h
    all_goals first
      | (cases h; done)
      | (obtain ⟨u, hu, hv⟩ := map_some h; cases hv; exact ⟨rfl, fun H' => by simp [*]⟩)
      | (simp only [Option.some.injEq, Prod.mk.injEq] at h; obtain ⟨rfl, rfl⟩ := h; exact ⟨rfl, fun H' => by simp [*]⟩)
end Go.EV

/- Blocks made at a told place. -/
namespace Go.EV
open Go.RowKit
variable {P : Program} {Fb : Fz}

/-- A step's record, without the numbers of the new blocks. -/
structure Gs0 (m : Mp) (F : Fz) (H : Hp) (w : World) (m' : Mp) (F' : Fz) (H' : Hp) (w' : World) : Prop where
  ml : MpLe m m'
  fl : FzLe F F'
  nw : ∀ b p, m' b = some p → m b = none → w.heap.size ≤ p.c ∨ ∃ b0 p0, m b0 = some p0 ∧ p0.c = p.c ∧ mutAt H b0
  nf : ∀ c o, F' c = some o → F c = none → w.heap.size ≤ c ∨ ∃ b p, m b = some p ∧ p.c = c ∧ mutAt H b
  mu : ∀ b p, m b = some p → mutAt H' b → mutAt H b
  fr : ∀ c, c < w.heap.size → (∀ b p, m b = some p → p.c = c → ¬ mutAt H b) → w'.heap[c]? = w.heap[c]?
  sz : w.heap.size ≤ w'.heap.size
  os : w'.os = w.os
  tape : w'.tape = w.tape
  out : w'.output = w.output
  lp : ∀ (c : Nat) (r : Loop), w.heap[c]? = some (Obj.loop r) → ∃ r', w'.heap[c]? = some (Obj.loop r') ∧ SameL r r'
theorem Gs.to0 {m m' : Mp} {F F' : Fz} {H H' : Hp} {w w' : World} (g : Gs m F H w m' F' H' w') : Gs0 m F H w m' F' H' w' := ⟨g.ml, g.fl, g.nw, g.nf, g.mu, g.fr, g.sz, g.os, g.tape, g.out, g.lp⟩
theorem Gs0.up {m m' : Mp} {F F' : Fz} {H H' : Hp} {w w' : World} (g : Gs0 m F H w m' F' H' w') (hl : H.length ≤ H'.length) (nm : ∀ b p, m b = none → m' b = some p → H.length ≤ b ∧ b < H'.length) : Gs m F H w m' F' H' w' := ⟨g.ml, g.fl, g.nw, g.nf, g.mu, g.fr, g.sz, g.os, g.tape, g.out, hl, nm, g.lp⟩
theorem Gs0.refl (m : Mp) (F : Fz) (H : Hp) (w : World) : Gs0 m F H w m F H w := (Gs.refl m F H w).to0
theorem Gs0.trans {m m' m2 : Mp} {F F' F2 : Fz} {H H' H2 : Hp} {w w' w2 : World} (g : Gs0 m F H w m' F' H' w') (k : Gs0 m' F' H' w' m2 F2 H2 w2) : Gs0 m F H w m2 F2 H2 w2 where
  ml := g.ml.trans k.ml
  fl := g.fl.trans k.fl
  nw b p h hn := by
    cases e : m' b with
    | none =>
      rcases k.nw b p h e with h1 | ⟨b0, p0, h1, h2, h3⟩
      · exact .inl (Nat.le_trans g.sz h1)
      · cases e2 : m b0 with
        | none => rw [← h2]; exact g.nw b0 p0 h1 e2
        | some q => have h4 := g.ml b0 q e2; rw [h1] at h4; cases h4; exact .inr ⟨b0, p0, e2, h2, g.mu b0 p0 e2 h3⟩
    | some q => have h1 := k.ml b q e; rw [h] at h1; cases h1; exact g.nw b p e hn
  nf c o h hn := by
    cases e : F' c with
    | none =>
      rcases k.nf c o h e with h1 | ⟨b, p, h1, h2, h3⟩
      · exact .inl (Nat.le_trans g.sz h1)
      · cases e2 : m b with
        | none => rw [← h2]; exact g.nw b p h1 e2
        | some q => have h4 := g.ml b q e2; rw [h1] at h4; cases h4; exact .inr ⟨b, p, e2, h2, g.mu b p e2 h3⟩
    | some q => have h1 := k.fl c q e; rw [h] at h1; cases h1; exact g.nf c o e hn
  mu b p h hm := g.mu b p h (k.mu b p (g.ml b p h) hm)
  fr c hc hn := by
    rw [k.fr c (Nat.lt_of_lt_of_le hc g.sz) (fun b p hb hp hm => ?_)]
    · exact g.fr c hc hn
    · cases e2 : m b with
      | none =>
        rcases g.nw b p hb e2 with h1 | ⟨b0, p0, h1, h2, h3⟩
        · omega
        · exact hn b0 p0 h1 (h2.trans hp) h3
      | some q => have h4 := g.ml b q e2; rw [hb] at h4; cases h4; exact hn b p e2 hp (g.mu b p e2 hm)
  sz := Nat.le_trans g.sz k.sz
  os := k.os.trans g.os
  tape := k.tape.trans g.tape
  out := k.out.trans g.out
  lp c r h := by obtain ⟨r', h', s⟩ := g.lp c r h; obtain ⟨r2, h2, s2⟩ := k.lp c r' h'; exact ⟨r2, h2, s.trans s2⟩

/-- The same heap where the map tells. -/
theorem WR.re {m : Mp} {F : Fz} {H H' : Hp} {w : World} (hw : WR P Fb m F H w) (h : ∀ b p, m b = some p → H'[b]? = H[b]?) : WR P Fb m F H' w := by
  have hmu : ∀ b p, m b = some p → mutAt H' b → mutAt H b := fun b p hb => by
    rintro ⟨k, hk, hm⟩; exact ⟨k, (h b p hb).symm.trans hk, hm⟩
  refine ⟨hw.bs, hw.fz, fun b p hb => ?_, fun b b' p p' h1 h2 m1 m2 e => hw.inj b b' p p' h1 h2 (hmu _ _ h1 m1) (hmu _ _ h2 m2) e, fun b p hb hm => hw.fre b p hb (hmu _ _ hb hm)⟩
  obtain ⟨k, hk, hb'⟩ := hw.blk b p hb
  exact ⟨k, (h b p hb).trans hk, hb'⟩
theorem Gs0.re {m m' : Mp} {F F' : Fz} {H H1 H' H1' : Hp} {w w' : World} (g : Gs0 m F H w m' F' H' w') (h : ∀ b p, m b = some p → H1[b]? = H[b]?) (h' : ∀ b p, m b = some p → H1'[b]? = H'[b]?) : Gs0 m F H1 w m' F' H1' w' := by
  have hmu : ∀ b p, m b = some p → (mutAt H1 b ↔ mutAt H b) := fun b p hb => by
    constructor
    · rintro ⟨k, hk, hm⟩; exact ⟨k, (h b p hb).symm.trans hk, hm⟩
    · rintro ⟨k, hk, hm⟩; exact ⟨k, (h b p hb).trans hk, hm⟩
  refine ⟨g.ml, g.fl, fun b p hb hn => ?_, fun c o hc hn => ?_, fun b p hb hm => ?_, fun c hc hn => ?_, g.sz, g.os, g.tape, g.out, g.lp⟩
  · rcases g.nw b p hb hn with h1 | ⟨b0, p0, h1, h2, h3⟩
    · exact .inl h1
    · exact .inr ⟨b0, p0, h1, h2, (hmu _ _ h1).2 h3⟩
  · rcases g.nf c o hc hn with h1 | ⟨b0, p0, h1, h2, h3⟩
    · exact .inl h1
    · exact .inr ⟨b0, p0, h1, h2, (hmu _ _ h1).2 h3⟩
  · refine (hmu _ _ hb).2 (g.mu b p hb ?_)
    obtain ⟨k, hk, hmk⟩ := hm
    exact ⟨k, (h' b p hb).symm.trans hk, hmk⟩
  · exact g.fr c hc fun b p hb hp hm => hn b p hb hp ((hmu _ _ hb).2 hm)

/-- A new block, at a place that the heap tells already. -/
theorem WR.pushAt {m : Mp} {F : Fz} {H : Hp} {w : World} (hw : WR P Fb m F H w) {L : Nat} (k : Blk) (o : Obj) (p : Pl) (hm : m L = none) (hk : H[L]? = some k) (hp : p.c = w.heap.size) (hb : BR P (upd m L p) F (w.alloc o) k p) :
    WR P Fb (upd m L p) F H (w.alloc o) ∧ Gs0 m F H w (upd m L p) F H (w.alloc o) := by
  have hle := upd_le p hm
  refine ⟨⟨hw.bs, fun c x h => (heap_alloc_lt w o (hw.Flt h)).trans (hw.fz c x h), fun b q h => ?_, fun b b' q q' h h' hm1 hm' e => ?_, fun b q h hm1 => ?_⟩,
    ⟨hle, FzLe.refl _, fun b q h hn => ?_, fun c x h hn => (by rw [h] at hn; cases hn), fun b q h hm1 => hm1, fun c hc _ => heap_alloc_lt w o hc, by rw [size_alloc']; omega, rfl, rfl, rfl, fun c r h => ⟨r, (heap_alloc_lt w o (Array.getElem?_eq_some_iff.1 h).1).trans h, SameL.refl r⟩⟩⟩
  · rcases upd_cases h with ⟨rfl, rfl⟩ | ⟨hne, h⟩
    · exact ⟨k, hk, hb⟩
    · obtain ⟨k', hk', hbr⟩ := hw.blk b q h
      exact ⟨k', hk', BR.mono hle (FzLe.refl _) (fun hmm => heap_alloc_lt w o (hw.mutlt h ⟨k', hk', hmm⟩)) hbr⟩
  · rcases upd_cases h with ⟨e1, e2⟩ | ⟨hne, k1⟩ <;> rcases upd_cases h' with ⟨e3, e4⟩ | ⟨hne', k2⟩
    · rw [e1, e3]
    · have := hw.mutlt k2 hm'; rw [e2] at e; omega
    · have := hw.mutlt k1 hm1; rw [e4] at e; omega
    · exact hw.inj b b' q q' k1 k2 hm1 hm' e
  · rcases upd_cases h with ⟨rfl, rfl⟩ | ⟨hne, h⟩
    · cases hF : F q.c with
      | none => rfl
      | some x => have := hw.Flt hF; omega
    · exact hw.fre b q h hm1
  · rcases upd_cases h with ⟨rfl, rfl⟩ | ⟨hne, h⟩
    · exact .inl (by omega)
    · rw [h] at hn; cases hn

def SimC (P : Program) (Fb : Fz) (o : Oper) (i : CI) : Prop :=
  ∀ (m : Mp) (F : Fz) (f : Fr) (a : Act) (H Hx : Hp) (w : World) (v : AV) (H1 : Hp), FRel m F f a.tmps → WR P Fb m F Hx w → evI f H i = some (v, H1) → ((∃ blk, H1 = H ++ [blk]) → m H.length = none) → (∀ blk, H1 = H ++ [blk] → Hx[H.length]? = some blk) →
    (H1 = H ∨ ∃ blk, H1 = H ++ [blk]) ∧ ∃ m' nx w', (execOp a.eval o).run P w = .ok nx w' ∧ NxR m' F v nx ∧ WR P Fb m' F Hx w' ∧ Gs0 m F Hx w m' F Hx w' ∧ (m' = m ∨ ∃ p blk, m' = upd m H.length p ∧ H1 = H ++ [blk])

theorem cells_BR {m : Mp} {F : Fz} {w : World} {L : Nat} (hm : m L = none) (ty : Nat) (cs : List AV) (arr : Array Value) (hv : ∀ (i : Nat) (v : AV), cs[i]? = some v → ∃ v', arr[i]? = some v' ∧ VR m F v v') (hl : cs.length = arr.size) :
    BR P (upd m L ⟨w.heap.size, 0, cs.length, arr.size⟩) F (w.alloc (.cells arr ty)) (.cells 1 ty cs) ⟨w.heap.size, 0, cs.length, arr.size⟩ := by
  refine ⟨rfl, arr, 0, 0, (fun h => (by cases h)), fun _ => heap_alloc_at w _, by simpa using Nat.le_of_eq hl, rfl, fun i v e => ?_, fun _ => rfl, fun _ => .inl rfl, fun _ => ⟨rfl, hl.symm⟩⟩
  obtain ⟨v', a, b⟩ := hv i v e
  exact ⟨v', by simpa using a, b.mono (upd_le _ hm) (FzLe.refl _)⟩

theorem simc_alloc {o : Oper} {t : TypeId} {z : List AV} (ho : o.op = .alloc t) (hz : zero? P t = some z) : SimC P Fb o (.alloc t z) := by
  intro m F f a H Hx w v H1 hf hw h hm hx
  simp only [evI, Option.some.injEq, Prod.mk.injEq] at h
  obtain ⟨rfl, rfl⟩ := h
  replace hm := hm ⟨_, rfl⟩
  obtain ⟨zv, h1, h2⟩ := zero?_rel hz
  have hv := avL_VRL (m := m) (F := F) h2
  obtain ⟨g1, g2⟩ := hw.pushAt _ (.cells zv.cells t) _ hm (hx _ rfl) rfl (cells_BR (P := P) hm t z zv.cells hv.cell hv.1)
  refine ⟨.inr ⟨_, rfl⟩, _, .value (.pointer (some ⟨w.heap.size, 0, none⟩)), _, ?_, .inl ⟨_, rfl, ?_⟩, g1, g2, .inr ⟨_, _, rfl, rfl⟩⟩
  · simp [execOp, ho, Instr.alloc, Sem.run_bind, run_zero h1, Result.andThen, newVar, run_newRow']
  · exact VR.ptr H.length 0 ⟨w.heap.size, 0, z.length, zv.cells.size⟩ (upd_same _ _ _)

theorem simc_box {o : Oper} {t : TypeId} {x : Operand} {cx : CX} (ho : o.op = .box t x) (hx : compX x = some cx) : SimC P Fb o (.box t cx) := by
  intro m F f a H Hx w v H1 hf hw h hm hxx
  have h1 := compX_rel hf hx
  simp only [evI] at h
  split at h
  · cases h
  rename_i hu
  simp only [Option.some.injEq, Prod.mk.injEq] at h
  obtain ⟨rfl, rfl⟩ := h
  replace hm := hm ⟨_, rfl⟩
  have hv := h1.cellsL (fun e => by rw [e] at hu; cases hu)
  obtain ⟨g1, g2⟩ := hw.pushAt _ (.cells (a.eval x).cells t) _ hm (hxx _ rfl) rfl (cells_BR (P := P) hm t _ _ hv.cell hv.1)
  refine ⟨.inr ⟨_, rfl⟩, _, .value (.pointer (some ⟨w.heap.size, 0, none⟩)), _, ?_, .inl ⟨_, rfl, ?_⟩, g1, g2, .inr ⟨_, _, rfl, rfl⟩⟩
  · simp [execOp, ho, Instr.box, Result.andThen, newVar, run_newRow']
  · exact VR.ptr H.length 0 _ (upd_same _ _ _)

theorem simc_mkmap {o : Oper} {t : TypeId} (ho : o.op = .makeMap t none) : SimC P Fb o .mkmap := by
  intro m F f a H Hx w v H1 hf hw h hm hx
  simp only [evI, Option.some.injEq, Prod.mk.injEq] at h
  obtain ⟨rfl, rfl⟩ := h
  replace hm := hm ⟨_, rfl⟩
  obtain ⟨g1, g2⟩ := hw.pushAt (.map []) (.map #[] 0) ⟨w.heap.size, 0, 0, 0⟩ hm (hx _ rfl) rfl ⟨#[], 0, heap_alloc_at w _, rfl, fun i k v e => by simp at e⟩
  refine ⟨.inr ⟨_, rfl⟩, _, .value (.map (some w.heap.size)), _, ?_, .inl ⟨_, rfl, ?_⟩, g1, g2, .inr ⟨_, _, rfl, rfl⟩⟩
  · have : (Instr.makeMap t none).run P w = .ok (.map (some w.heap.size)) (w.alloc (.map #[] 0)) := rfl
    simp [execOp, ho, this, Result.andThen]
  · exact VR.map H.length ⟨w.heap.size, 0, 0, 0⟩ (upd_same _ _ _)

theorem simc_bslice {o : Oper} {t e : TypeId} {len es : Nat} {parts : Array (Nat × Operand)} {z : List AV} {cps : List (Nat × CX)} (ho : o.op = .buildSlice t len parts) (ht : P.underlying t = some (.slice e)) (hs : sizeOf? P e = some es) (hz : zero? P e = some z) (hc : compPartsS parts.toList = some cps)
    (hl : len * es ≤ 16777216) (hzl : z.length = es) (hes : 0 < es) : SimC P Fb o (.bslice e es z len cps) := by
  intro m F f a H Hx w v H1 hf hw h hm hx
  simp only [evI] at h
  obtain ⟨cs', hu, hv⟩ := map_some h
  obtain ⟨arr', hrun, g2, g3⟩ := bslice_run hf w ht hs hz hc hl hzl hes hu
  have hgo : (execOp a.eval o).run P w = .ok (.value (.slice (some ⟨w.heap.size, 0, none⟩) len len)) (w.alloc (.cells arr' e)) := by simp [execOp, ho, hrun, Result.andThen]
  split at hv
  · rename_i h0
    cases hv
    obtain ⟨q1, q2⟩ := hw.pushJunk (.cells arr' e)
    subst h0
    exact ⟨.inl rfl, m, _, _, hgo, .inl ⟨_, rfl, .emp _⟩, q1, q2.to0, .inl rfl⟩
  · rename_i h0
    cases hv
    replace hm := hm ⟨_, rfl⟩
    obtain ⟨q1, q2⟩ := hw.pushAt _ (.cells arr' e) _ hm (hx _ rfl) rfl (cells_BR (P := P) hm e cs' arr' g2.cell g2.1)
    refine ⟨.inr ⟨_, rfl⟩, _, _, _, hgo, .inl ⟨_, rfl, .sl es H.length 0 len _ _ len (upd_same _ _ _) (Nat.le_refl _) fun _ => ⟨rfl, ?_⟩⟩, q1, q2, .inr ⟨_, _, rfl, rfl⟩⟩
    show 0 + 0 + len * es ≤ arr'.size
    omega

theorem simc_compI0 {o : Oper} {i : CI} (h : compI0 P o = some i) (hm : i.makes = true) : SimC P Fb o i := by
  unfold compI0 at h
  split at h
  case h_4 => obtain ⟨c, h1, rfl⟩ := map_some h; exact simc_alloc ‹_› h1
  case h_5 => obtain ⟨c, h1, rfl⟩ := map_some h; exact simc_box ‹_› h1
  case h_7 =>
    split at h
    · split at h
      · split at h
        · rename_i hc
          cases h; exact simc_bslice ‹_› ‹_› ‹_› ‹_› ‹_› hc.1 hc.2.1 hc.2.2
        · cases h
      · cases h
    · cases h
  case h_16 => cases h; exact simc_mkmap ‹_›
  all_goals
    repeat' split at h
    all_goals first
      | (cases h; done)
      | (obtain ⟨c, h1, h2⟩ := map_some h; subst h2; cases hm; done)
      | (obtain ⟨c, h1, h2⟩ := map_some h; cases h2; done)
      | (cases h; cases hm; done)
theorem simc_compI {o : Oper} (hm : (compI P o).makes = true) : SimC P Fb o (compI P o) := by
  unfold compI at *
  cases h : compI0 P o with
  | none => rw [h] at hm; cases hm
  | some i => rw [h] at hm; exact simc_compI0 h hm
end Go.EV

/- One operation in the walk; regions in the text's order. -/
namespace Go.EV
open Go.RowKit
variable {P : Program} {Fb : Fz}

/-- A fence that lets every function in. -/
structure Open (B : Fence) : Prop where
  fn : ∀ f, B.fn f
  depth : B.depth = none
def fen (B : Fence) (rd : Option Nat) : Fence := { B with round := rd }
theorem fen_fn {B : Fence} (h : Open B) (rd : Option Nat) (f : FuncId) : (fen B rd).fn f := h.fn f
theorem fen_deep {B : Fence} (h : Open B) (rd : Option Nat) {n : Nat} : (fen B rd).depth.isSome = true → 1 ≤ n := fun e => by
  have : (fen B rd).depth = none := h.depth
  rw [this] at e; cases e

/-- What an answer is held to. -/
def RetOk (P : Program) (Fb : Fz) (m : Mp) (F : Fz) (H : Hp) (w : World) (v : AV) (H' : Hp) : Ending → World → Prop := fun e w' => ∃ u, e = .returned u ∧ ∃ m' F', VR m' F' v u ∧ WR P Fb m' F' H' w' ∧ Gs m F H w m' F' H' w'
def NextOk (B : Fence) (P : Program) (Fb : Fz) (m : Mp) (F : Fz) (H : Hp) (w : World) (v : AV) (H' : Hp) (nx : Next) : Prop :=
  (∃ fid as, nx = .enter fid as ∧ CallsIn (fen B none) 0 P fid as w (RetOk P Fb m F H w v H')) ∨
  (∃ l fid tmps x y, nx = .round l fid tmps x y ∧ RoundIn (fen B none) 0 P l fid tmps x y w (RetOk P Fb m F H w v H'))
def CallS (B : Fence) (P : Program) (Fb : Fz) (rec : Task → Res) : Prop :=
  ∀ (m : Mp) (F : Fz) (H : Hp) (w : World) (g : AV) (gv : Value) (args : List AV) (argv : Array Value) (v : AV) (H' : Hp), WR P Fb m F H w → VR m F g gv → VRL m F args argv → rec (.call g args H) = .val v H' →
    ∃ d nx, (Deferred.ofValue gv argv).run P w = .ok d w ∧ (invoke d.target d.args).run P w = .ok nx w ∧ NextOk B P Fb m F H w v H' nx ∧ ((∃ k cs, g = .fn k cs) → ∃ fid as, nx = .enter fid as)

theorem compXs_VRL {m : Mp} {F : Fz} {f : Fr} {a : Act} (hf : FRel m F f a.tmps) {xs : Array Operand} {cs : List CX} (h : compXs xs.toList = some cs) : VRL m F (cs.map (·.ev f)) (xs.map a.eval) := by
  obtain ⟨h1, h2⟩ := compXs_rel hf _ _ h
  exact ⟨by simpa using h1, fun i v v' e1 e2 => h2 i v v' e1 (by rw [← Array.getElem?_toList] at e2; simpa using e2)⟩

theorem comp_call {o : Oper} {g : CX} {cs : List CX} (h : compI P o = .call g cs) : ∃ c f, o.op = .call c ∧ c.callee = .value f ∧ compX f = some g ∧ compXs c.args.toList = some cs := by
  unfold compI at h
  cases h0 : compI0 P o with
  | none => rw [h0] at h; cases h
  | some i =>
    rw [h0] at h
    have : i = .call g cs := h
    subst this
    unfold compI0 at h0
    split at h0
    case h_25 =>
      split at h0
      · split at h0
        · cases h0; exact ⟨_, _, ‹_›, ‹_›, ‹_›, ‹_›⟩
        · cases h0
      all_goals
        repeat' split at h0
        all_goals first
          | (cases h0; done)
          | (obtain ⟨c, h1, h2⟩ := map_some h0; cases h2; done)
    all_goals
      repeat' split at h0
      all_goals first
        | (cases h0; done)
        | (obtain ⟨c, h1, h2⟩ := map_some h0; cases h2; done)
theorem comp_defer {o : Oper} {f : Fr} {H : Hp} {r : AV × Hp} {rec : Task → Res} {co : CO} (hi : co.ins = compI P o) (h : evCO rec co f H = some r) : ∀ c, o.op ≠ .defer c := by
  intro c e
  have : compI P o = .bad := by unfold compI compI0; rw [e]; rfl
  rw [this] at hi
  unfold evCO at h
  rw [hi] at h
  cases h

/-- One operation, told by the evaluator. -/
theorem walk_op {B : Fence} (hB : Open B) {rec : Task → Res} (hrec : CallS B P Fb rec) {rd : Option Nat} {o : Oper} {co : CO} (hi : co.ins = compI P o) {m : Mp} {F : Fz} {f : Fr} {a : Act} {H H' : Hp} {w : World} {v : AV}
    (hf : FRel m F f a.tmps) (hw : WR P Fb m F H w) (h : evCO rec co f H = some (v, H')) {next : Act → World → Prop} {Q : Exit → Act → World → Prop}
    (k : ∀ m' F' u w', VR m' F' v u → WR P Fb m' F' H' w' → Gs m F H w m' F' H' w' → next (a.put o.dst u) w') : o.wpIn (fen B rd) 0 P a w next Q := by
  have hd := comp_defer (P := P) hi h
  refine ⟨fun g _ => fen_fn hB rd g, ?_⟩
  rw [Oper.semAt_eq _ _ _ hd]
  have plain : evI f H (compI P o) = some (v, H') → o.uponIn (fen B rd) 0 P a next Q ((execOp a.eval o).run P w) := by
    intro he
    obtain ⟨m', F', nx, w', r, hn, h1, h2⟩ := sim_compI o m F f a H w v H' hf hw he
    rw [r]
    rcases hn with ⟨v', rfl, hv⟩ | ⟨rfl, rfl⟩
    · exact k m' F' v' w' hv h1 h2
    · exact k m' F' undef w' (.tup [] #[] rfl (fun i v v' e => by simp at e)) h1 h2
  unfold evCO at h
  rw [hi] at h
  cases hc : compI P o with
  | call g cs =>
    rw [hc] at h
    simp only at h
    split at h
    · rename_i v2 H2 hr
      simp only [Option.some.injEq, Prod.mk.injEq] at h
      obtain ⟨rfl, rfl⟩ := h
      obtain ⟨c, x, ho, hcal, hx, hxs⟩ := comp_call hc
      obtain ⟨d, nx, r1, r2, hok, _⟩ := hrec m F H w _ _ _ _ _ _ hw (compX_rel hf hx) (compXs_VRL hf hxs) hr
      have hrun : (execOp a.eval o).run P w = .ok nx w := by
        simp only [execOp, ho, resolve, hcal, Sem.run_bind, r1, Result.andThen, r2]
      rw [hrun]
      rcases hok with ⟨fid, as, rfl, hcall⟩ | ⟨l, fid, tmps, x, y, rfl, hcall⟩
      · refine ⟨fen_deep hB rd, CallsIn.mono (F := fen B rd) hcall ?_⟩
        rintro e w'' ⟨u, rfl, m', F', q1, q2, q3⟩
        exact k m' F' u w'' q1 q2 q3
      · refine ⟨fen_deep hB rd, RoundIn.mono (F := fen B rd) hcall ?_⟩
        rintro e w'' ⟨u, rfl, m', F', q1, q2, q3⟩
        exact k m' F' u w'' q1 q2 q3
    · cases h
  | _ =>
    rw [hc] at h
    exact plain (by rw [hc]; exact h)
end Go.EV

/- Regions in the text's order. -/
namespace Go.EV
open Go.RowKit
variable {P : Program} {Fb : Fz}

structure OpC (P : Program) (ops : Array Oper) (o : Oper) (co : CO) : Prop where
  dst : compD o.dst = some co.dst
  guard : compG ops o.guard = some co.guard
  ins : co.ins = compI P o
theorem compO1_spec {ops : Array Oper} {i : Nat} {co : CO} (h : compO1 P ops i = some co) : ∃ o, ops[i]? = some o ∧ OpC P ops o co ∧ co.ix = i := by
  unfold compO1 at h
  split at h
  · cases h
  · rename_i o ho
    split at h
    · cases h; exact ⟨o, ho, ⟨‹_›, ‹_›, rfl⟩, rfl⟩
    · cases h
theorem put_frel {m : Mp} {F : Fz} {f : Fr} {a : Act} {d : Option Tmp} {d' : Option Pth} (hd : compD d = some d') (hf : FRel m F f a.tmps) {v : AV} {u : Value} (hv : VR m F v u) : FRel m F (putD d' v f) (a.put d u).tmps := by
  cases d with
  | none => cases hd; exact hf
  | some t =>
    obtain ⟨p, hp, rfl⟩ := map_some hd
    have := toPth_n hp
    subst this
    exact hf.set p hv
theorem put_size (a : Act) (d : Option Tmp) (u : Value) : (a.put d u).tmps.size = a.tmps.size := by
  cases d <;> simp [Act.put]
theorem put_defers (a : Act) (d : Option Tmp) (u : Value) : (a.put d u).defers = a.defers := by
  cases d <;> rfl
theorem wanted_rel {m : Mp} {F : Fz} {f : Fr} {tmps : Array Value} {ops : Array Oper} {o : Oper} {g : Option (Pth × Bool)} {b : Bool} (hg : compG ops o.guard = some g) (hf : ∀ p q, g = some (p, q) → ∀ v, f.get p = some v → ∃ v', tmps[p.n]? = some v' ∧ VR m F v v') (h : wanted g f = some b) : Region.wanted o (yielded ops tmps) = b := by
  unfold compG at hg
  unfold Region.wanted
  split at hg
  · rename_i e
    cases hg
    simp only [wanted, Option.some.injEq] at h
    rw [e, ← h]
  · rename_i j want e
    split at hg
    · rename_i t ht
      obtain ⟨p, hp, rfl⟩ := map_some hg
      have hn := toPth_n hp
      rw [e]
      simp only
      unfold wanted at h
      simp only at h
      unfold yielded
      rw [ht]
      simp only [Option.bind_some]
      cases hgt : f.get p with
      | none => rw [hgt] at h; cases h
      | some v =>
        obtain ⟨v', h1, h2⟩ := hf p want rfl v hgt
        rw [hn] at h1
        rw [h1]
        rw [hgt] at h
        cases h2 <;> first | (cases h; done) | (cases h; rfl)
    · cases hg

theorem walk_ops {B : Fence} (hB : Open B) {rec : Task → Res} (hrec : CallS B P Fb rec) {rd : Option Nat} {ops : Array Oper} : ∀ (l : List Nat) (cos : List CO) (m : Mp) (F : Fz) (f : Fr) (a : Act) (H : Hp) (w : World) (f' : Fr) (H' : Hp) (Q : Exit → Act → World → Prop),
    optM (compO1 P ops) l = some cos → evOps rec cos f H = .ok .norm f' H' → FRel m F f a.tmps → WR P Fb m F H w →
    (∀ m' F' a' w', FRel m' F' f' a'.tmps → WR P Fb m' F' H' w' → Gs m F H w m' F' H' w' → a'.defers = a.defers → a'.tmps.size = a.tmps.size → Q .normal a' w') → wpOpsIn (fen B rd) 0 P ops Q l a w
  | [], cos, m, F, f, a, H, w, f', H', Q, hc, h, hf, hw, k => by
    cases hc
    simp only [evOps, Res.ok.injEq, true_and] at h
    obtain ⟨rfl, rfl⟩ := h
    exact k m F a w hf hw (Gs.refl ..) rfl rfl
  | i :: l, cos, m, F, f, a, H, w, f', H', Q, hc, h, hf, hw, k => by
    unfold optM at hc
    split at hc
    · rename_i co hco
      obtain ⟨cos', hc', rfl⟩ := map_some hc
      obtain ⟨o, ho, hoc, _⟩ := compO1_spec hco
      unfold evOps at h
      unfold wpOpsIn
      rw [ho]
      simp only
      split at h
      · rename_i hwant
        rw [wanted_rel hoc.guard (fun p q _ => hf p) hwant]
        split at h
        · rename_i v H1 he
          simp only [if_true]
          refine walk_op hB hrec hoc.ins hf hw he fun m1 F1 u w1 q1 q2 q3 => ?_
          refine walk_ops hB hrec l cos' m1 F1 _ _ H1 w1 f' H' Q hc' h (put_frel hoc.dst (hf.mono q3.ml q3.fl) q1) q2 fun m' F' a' w' g1 g2 g3 g4 g5 => ?_
          exact k m' F' a' w' g1 g2 (q3.trans g3) (g4.trans (put_defers ..)) (g5.trans (put_size ..))
        · cases h
      · rename_i hwant
        rw [wanted_rel hoc.guard (fun p q _ => hf p) hwant]
        simp only [Bool.false_eq_true, if_false]
        refine ⟨fun g _ => fen_fn hB rd g, ?_⟩
        refine walk_ops hB hrec l cos' m F _ _ H w f' H' Q hc' h (put_frel hoc.dst hf (.tup [] #[] rfl (fun i v v' e => by simp at e))) hw fun m' F' a' w' g1 g2 g3 g4 g5 => ?_
        exact k m' F' a' w' g1 g2 g3 (g4.trans (put_defers ..)) (g5.trans (put_size ..))
      · cases h
    · cases hc
theorem walk_reg {B : Fence} (hB : Open B) {rec : Task → Res} (hrec : CallS B P Fb rec) {rd : Option Nat} {id : Nat} {ops : Array Oper} {cos : List CO} {m : Mp} {F : Fz} {f : Fr} {a : Act} {H : Hp} {w : World} {f' : Fr} {H' : Hp} {Q : Exit → Act → World → Prop}
    (hc : optM (compO1 P ops) (List.range ops.size) = some cos) (h : evOps rec cos f H = .ok .norm f' H') (hf : FRel m F f a.tmps) (hw : WR P Fb m F H w)
    (k : ∀ m' F' a' w', FRel m' F' f' a'.tmps → WR P Fb m' F' H' w' → Gs m F H w m' F' H' w' → a'.defers = a.defers → a'.tmps.size = a.tmps.size → Q .normal a' w') : (Code.region id ops false).wpIn (fen B rd) 0 P Q a w :=
  wpIn_region (walk_ops hB hrec _ cos m F f a H w f' H' Q hc h hf hw k)
end Go.EV

/- Equal values; what comes before what; the text's run of a drawn region. -/
namespace Go.EV
open Go.RowKit
variable {P : Program} {Fb : Fz}

mutual
theorem AV.beq_eq : ∀ (a b : AV), AV.beq a b = true → a = b
  | .und, b, h => by cases b <;> first | rfl | cases h
  | .bool x, b, h => by cases b <;> first | (simp [AV.beq] at h; rw [h]; done) | cases h
  | .int k n, b, h => by cases b <;> first | (simp [AV.beq] at h; rw [h.1, h.2]; done) | cases h
  | .str s, b, h => by cases b <;> first | (simp [AV.beq] at h; rw [h]; done) | cases h
  | .nilp, b, h => by cases b <;> first | rfl | cases h
  | .ptr x y, b, h => by cases b <;> first | (simp [AV.beq] at h; rw [h.1, h.2]; done) | cases h
  | .cptr x y, b, h => by
    cases b <;> first | (cases h; done) | skip
    simp [AV.beq] at h
    rw [AV.beqL_eq x _ h.1, h.2]
  | .nils, b, h => by cases b <;> first | rfl | cases h
  | .emp, b, h => by cases b <;> first | rfl | cases h
  | .lst x, b, h => by
    cases b <;> first | (cases h; done) | skip
    simp [AV.beq] at h
    rw [AV.beqLL_eq x _ h]
  | .sl x y z u, b, h => by cases b <;> first | (simp [AV.beq] at h; rw [h.1.1.1, h.1.1.2, h.1.2, h.2]; done) | cases h
  | .nilm, b, h => by cases b <;> first | rfl | cases h
  | .map x, b, h => by cases b <;> first | (simp [AV.beq] at h; rw [h]; done) | cases h
  | .nilf, b, h => by cases b <;> first | rfl | cases h
  | .fn x y, b, h => by
    cases b <;> first | (cases h; done) | skip
    simp [AV.beq] at h
    rw [h.1, AV.beqL_eq y _ h.2]
  | .yld x, b, h => by cases b <;> first | (simp [AV.beq] at h; rw [h]; done) | cases h
  | .nili, b, h => by cases b <;> first | rfl | cases h
  | .err, b, h => by cases b <;> first | rfl | cases h
  | .iface x y, b, h => by
    cases b <;> first | (cases h; done) | skip
    simp [AV.beq] at h
    rw [h.1, AV.beq_eq y _ h.2]
  | .agg x, b, h => by
    cases b <;> first | (cases h; done) | skip
    simp [AV.beq] at h
    rw [AV.beqL_eq x _ h]
  | .tup x, b, h => by
    cases b <;> first | (cases h; done) | skip
    simp [AV.beq] at h
    rw [AV.beqL_eq x _ h]
  | .own s t l, b, h => by
    cases b <;> first | (cases h; done) | skip
    simp [AV.beq] at h
    rw [h.1.1, h.1.2, AV.beqLL_eq l _ h.2]
theorem AV.beqL_eq : ∀ (a b : List AV), AV.beqL a b = true → a = b
  | [], [], _ => rfl
  | [], _ :: _, h => by cases h
  | _ :: _, [], h => by cases h
  | a :: x, b :: y, h => by
    simp [AV.beqL] at h
    rw [AV.beq_eq a b h.1, AV.beqL_eq x y h.2]
theorem AV.beqLL_eq : ∀ (a b : List (List AV)), AV.beqLL a b = true → a = b
  | [], [], _ => rfl
  | [], _ :: _, h => by cases h
  | _ :: _, [], h => by cases h
  | a :: x, b :: y, h => by
    simp [AV.beqLL] at h
    rw [AV.beqL_eq a b h.1, AV.beqLL_eq x y h.2]
end

/-! ## What comes before what -/
theorem masks_prefix : ∀ (l : List Oper) (acc : List Nat) (i : Nat), i < acc.length → (masks l acc)[i]? = acc[i]?
  | [], _, _, _ => rfl
  | o :: r, acc, i, h => by
    rw [masks, masks_prefix r _ i (by simp; omega), List.getElem?_append_left h]
theorem masks_at : ∀ (l : List Oper) (acc : List Nat) (i : Nat) (o : Oper), l[i]? = some o → (masks l acc)[acc.length + i]? = some (maskOf ((masks l acc).take (acc.length + i)) o.after.toList)
  | [], _, _, _, h => by simp at h
  | o :: r, acc, 0, o', h => by
    simp at h; subst h
    rw [masks, Nat.add_zero, masks_prefix r _ _ (by simp)]
    have : (masks r (acc ++ [maskOf acc o.after.toList])).take acc.length = acc := by
      apply List.ext_getElem?
      intro i
      by_cases hi : i < acc.length
      · rw [List.getElem?_take_of_lt hi, masks_prefix r _ i (by simp; omega), List.getElem?_append_left hi]
      · rw [List.getElem?_eq_none (by simp; omega), List.getElem?_eq_none (by omega)]
    rw [this]
    simp
  | o :: r, acc, i + 1, o', h => by
    have := masks_at r (acc ++ [maskOf acc o.after.toList]) i o' (by simpa using h)
    rw [masks]
    simp only [List.length_append, List.length_cons, List.length_nil, Nat.zero_add] at this
    rw [show acc.length + (i + 1) = acc.length + 1 + i by omega]
    exact this
theorem mask_bit (acc : List Nat) (j : Nat) : ∀ (l : List Edge), (maskOf acc l).testBit j = true → ∃ e ∈ l, Region.binds .any e = true ∧ (j = e.on ∨ (acc.getD e.on 0).testBit j = true)
  | [], h => by simp [maskOf] at h
  | e :: r, h => by
    unfold maskOf at h
    split at h
    · rename_i hb
      rw [Nat.testBit_or, Nat.testBit_or, Bool.or_eq_true, Bool.or_eq_true, Nat.testBit_two_pow] at h
      rcases h with (h | h) | h
      · exact ⟨e, List.mem_cons_self .., hb, .inl (of_decide_eq_true h).symm⟩
      · exact ⟨e, List.mem_cons_self .., hb, .inr h⟩
      · obtain ⟨e', h1, h2⟩ := mask_bit acc j r h
        exact ⟨e', List.mem_cons_of_mem _ h1, h2⟩
    · obtain ⟨e', h1, h2⟩ := mask_bit acc j r h
      exact ⟨e', List.mem_cons_of_mem _ h1, h2⟩
/-- Whatever is listed has what it waits for listed. -/
def Shut (ops : Array Oper) (listed : Array Bool) : Prop := ∀ i o, ops[i]? = some o → listed.getD i false = true → ∀ e ∈ o.after, Region.binds .any e = true → listed.getD e.on false = true
theorem pred_shut {ops : Array Oper} {listed : Array Bool} (hs : Shut ops listed) : ∀ (i j : Nat) (o : Oper), ops[i]? = some o → (∀ e ∈ o.after, Region.binds .any e = true → listed.getD e.on false = true) → pred (masks ops.toList []) i j = true → listed.getD j false = true := by
  intro i
  induction i using Nat.strongRecOn with
  | _ i ih =>
    intro j o ho hall hp
    have hm := masks_at ops.toList [] i o (by simpa using ho)
    simp only [List.length_nil, Nat.zero_add] at hm
    unfold pred at hp
    rw [List.getD_eq_getElem?_getD, hm, Option.getD_some] at hp
    obtain ⟨e, he, hb, h⟩ := mask_bit _ j _ hp
    have hl := hall e (by simpa using he) hb
    rcases h with rfl | h
    · exact hl
    · rw [List.getD_eq_getElem?_getD] at h
      by_cases hlt : e.on < i
      · rw [List.getElem?_take_of_lt hlt] at h
        cases hoe : ops[e.on]? with
        | none =>
          have hnone : (masks ops.toList [])[e.on]? = none ∨ True := .inr trivial
          have hle : i < ops.size := (Array.getElem?_eq_some_iff.1 ho).1
          have := Array.getElem?_eq_none_iff.1 hoe
          omega
        | some oe => exact ih e.on hlt j oe hoe (hs e.on oe hoe hl) (by unfold pred; rw [List.getD_eq_getElem?_getD]; exact h)
      · rw [List.getElem?_eq_none (by simp; omega)] at h
        simp at h

theorem pairs_at {α : Type} {r : α → α → Bool} : ∀ (l : List α) (x y : Nat) (a b : α), pairs r l = true → x < y → l[x]? = some a → l[y]? = some b → r a b = true
  | [], x, y, a, b, _, _, h, _ => by simp at h
  | c :: l, 0, y + 1, a, b, h, _, h1, h2 => by
    simp [pairs] at h
    simp at h1 h2
    subst h1
    exact h.1 b (List.mem_of_getElem? h2)
  | c :: l, x + 1, y + 1, a, b, h, hxy, h1, h2 => by
    simp [pairs] at h
    exact pairs_at l x y a b h.2 (by omega) (by simpa using h1) (by simpa using h2)

/-! ## The text's run -/
def TxStep (E : Env) (rec : Task → Res) (fs : Nat → Fr) (Hs : Nat → Hp) (vs : Nat → AV) (tc : Nat → Tch × Tch) (x : Nat) (o : CO) : Prop :=
  fs (x + 1) = putD o.dst (vs x) (fs x) ∧ ((wanted o.guard (fs x) = some true ∧ evCO rec o (fs x) (Hs x) = some (vs x, Hs (x + 1)) ∧ tc x = touch E (fs x) (Hs x) (Hs (x + 1)) o.ins) ∨
    (wanted o.guard (fs x) = some false ∧ vs x = .tup [] ∧ Hs (x + 1) = Hs x ∧ tc x = (.no, .no)))
theorem evDraw_tx (E : Env) (rec : Task → Res) : ∀ (cos : List CO) (f : Fr) (H : Hp) (ts0 : List (Tch × Tch)) (f' : Fr) (H' : Hp) (ts : List (Tch × Tch)), evDraw E rec cos f H ts0 = some (f', H', ts) →
    ∃ fs Hs vs tc, fs 0 = f ∧ Hs 0 = H ∧ fs cos.length = f' ∧ Hs cos.length = H' ∧ ts.length = ts0.length + cos.length ∧ (∀ x, x < ts0.length → ts[x]? = ts0.reverse[x]?) ∧ (∀ x o, cos[x]? = some o → ts[ts0.length + x]? = some (tc x)) ∧ ∀ x o, cos[x]? = some o → TxStep E rec fs Hs vs tc x o
  | [], f, H, ts0, f', H', ts, h => by
    simp only [evDraw, Option.some.injEq, Prod.mk.injEq] at h
    obtain ⟨rfl, rfl, rfl⟩ := h
    exact ⟨fun _ => f, fun _ => H, fun _ => .und, fun _ => (.no, .no), rfl, rfl, rfl, rfl, by simp, fun x hx => rfl, fun x o e => by simp at e, fun x o e => by simp at e⟩
  | co :: r, f, H, ts0, f', H', ts, h => by
    have go : ∀ (v : AV) (H1 : Hp) (t : Tch × Tch), evDraw E rec r (putD co.dst v f) H1 (t :: ts0) = some (f', H', ts) → ((wanted co.guard f = some true ∧ evCO rec co f H = some (v, H1) ∧ t = touch E f H H1 co.ins) ∨ (wanted co.guard f = some false ∧ v = .tup [] ∧ H1 = H ∧ t = (.no, .no))) →
        ∃ fs Hs vs tc, fs 0 = f ∧ Hs 0 = H ∧ fs (co :: r).length = f' ∧ Hs (co :: r).length = H' ∧ ts.length = ts0.length + (co :: r).length ∧ (∀ x, x < ts0.length → ts[x]? = ts0.reverse[x]?) ∧ (∀ x o, (co :: r)[x]? = some o → ts[ts0.length + x]? = some (tc x)) ∧ ∀ x o, (co :: r)[x]? = some o → TxStep E rec fs Hs vs tc x o := by
      intro v H1 t hr hstep
      obtain ⟨fs, Hs, vs, tc, h1, h2, h3, h4, h5, h6, h7, h8⟩ := evDraw_tx E rec r _ _ _ _ _ _ hr
      refine ⟨fun x => match x with | 0 => f | x + 1 => fs x, fun x => match x with | 0 => H | x + 1 => Hs x, fun x => match x with | 0 => v | x + 1 => vs x, fun x => match x with | 0 => t | x + 1 => tc x, rfl, rfl, h3, h4, by simp at h5 ⊢; omega, fun x hx => ?_, fun x o e => ?_, fun x o e => ?_⟩
      · rw [h6 x (by simp; omega), List.reverse_cons, List.getElem?_append_left (by simpa using hx)]
      · cases x with
        | zero =>
          have := h6 ts0.length (by simp)
          rw [Nat.add_zero, this, List.reverse_cons, List.getElem?_append_right (by simp)]
          simp
        | succ x =>
          have := h7 x o (by simpa using e)
          simp only [List.length_cons] at this
          rw [show ts0.length + (x + 1) = ts0.length + 1 + x by omega]
          exact this
      · cases x with
        | zero =>
          simp at e
          subst e
          subst h2
          refine ⟨h1, ?_⟩
          rcases hstep with ⟨a, b, c⟩ | ⟨a, b, c, d⟩
          · exact .inl ⟨a, b, c⟩
          · exact .inr ⟨a, b, c, d⟩
        | succ x => exact h8 x o (by simpa using e)
    unfold evDraw at h
    split at h
    · rename_i hw
      split at h
      · rename_i v H1 he
        exact go v H1 _ h (.inl ⟨hw, he, rfl⟩)
      · cases h
    · rename_i hw
      exact go _ H _ h (.inr ⟨hw, rfl, rfl, rfl⟩)
    · cases h
end Go.EV

/- What a change of the heap leaves alone. -/
namespace Go.EV
open Go.RowKit
variable {P : Program} {Fb : Fz} {E : Env} {rec : Task → Res}

def QuietR (E : Env) (rec : Task → Res) : Prop := ∀ g args H v H', quietCall E g args = true → rec (.call g args H) = .val v H' → H' = H

theorem noneff_push {co : CO} {f : Fr} {H H1 : Hp} {v : AV} (hn : co.ins.eff = false) (h : evCO rec co f H = some (v, H1)) : H1 = H ∨ ∃ blk, H1 = H ++ [blk] := by
  unfold evCO at h
  cases hi : co.ins with
  | call g l => rw [hi] at hn; cases hn
  | alloc ty z => rw [hi] at h; simp only [evI, Option.some.injEq, Prod.mk.injEq] at h; exact .inr ⟨_, h.2.symm⟩
  | mkmap => rw [hi] at h; simp only [evI, Option.some.injEq, Prod.mk.injEq] at h; exact .inr ⟨_, h.2.symm⟩
  | box ty x =>
    rw [hi] at h
    simp only [evI] at h
    split at h
    · cases h
    · simp only [Option.some.injEq, Prod.mk.injEq] at h; exact .inr ⟨_, h.2.symm⟩
  | bslice ty es z n l =>
    rw [hi] at h
    simp only [evI] at h
    obtain ⟨u, hu, hv⟩ := map_some h
    split at hv
    · cases hv; exact .inl rfl
    · cases hv; exact .inr ⟨_, rfl⟩
  | load n ag x =>
    rw [hi] at h
    simp only [evI] at h
    obtain ⟨u, hu, hv⟩ := map_some h
    cases hv; exact .inl rfl
  | b2s x =>
    rw [hi] at h
    simp only [evI] at h
    split at h
    · obtain ⟨u, hu, hv⟩ := map_some h
      cases hv; exact .inl rfl
    · cases h
  | lookup ks z ok m k =>
    rw [hi] at h
    simp only [evI] at h
    repeat' split at h
    all_goals first | (cases h; done) | (simp only [Option.some.injEq, Prod.mk.injEq] at h; exact .inl h.2.symm)
  | len k x =>
    rw [hi] at h
    simp only [evI] at h
    split at h
    · obtain ⟨u, hu, hv⟩ := map_some h
      cases hv; exact .inl rfl
    · cases h
  | store n x y => rw [hi] at hn; cases hn
  | append ty es x y => rw [hi] at hn; cases hn
  | mapup ks m k v => rw [hi] at hn; cases hn
  | clear es z x => rw [hi] at hn; cases hn
  | _ => rw [hi] at h; exact .inl (still_any rfl h).1

theorem getElem?_set_other {H : Hp} {b c : Nat} {k : Blk} (h : b ≠ c) : (H.set c k)[b]? = H[b]? := List.getElem?_set_ne (fun e => h e.symm)

theorem eff_mk (hq : QuietR E rec) {co : CO} {f : Fr} {H H1 : Hp} {v : AV} {b : Nat} {blk : Blk} (he : co.ins.eff = true) (h : evCO rec co f H = some (v, H1)) (hb : H[b]? = some blk) (hc : calm (.mk b) (touch E f H H1 co.ins).2 = true) : H1[b]? = some blk := by
  have hlt := (List.getElem?_eq_some_iff.1 hb).1
  unfold evCO at h
  cases hi : co.ins <;> first | (rw [hi] at he; cases he; done) | skip
  all_goals rw [hi] at h hc
  case store n x y =>
    simp only [evI] at h
    obtain ⟨u, hu, hv⟩ := map_some h
    cases hv
    unfold evStore at hu
    simp only [touch] at hc
    split at hu
    · rename_i c o hx
      rw [hx] at hc
      simp only [calm, decide_eq_true_eq] at hc
      split at hu
      · split at hu
        · cases hu; rw [getElem?_set_other hc]; exact hb
        · cases hu
      · cases hu
    · cases hu
  case append ty es s x =>
    simp only [evI] at h
    unfold evAppend at h
    simp only [touch] at hc
    split at h
    · cases h
    · cases hs : s.ev f <;> rw [hs] at h hc <;> first | (simp only at h; cases h; done) | skip
      · simp only at h
        split at h
        · cases h; exact hb
        · split at h
          · cases h; rw [List.getElem?_append_left hlt]; exact hb
          · cases h
      · simp only at h
        split at h
        · cases h; exact hb
        · split at h
          · cases h; rw [List.getElem?_append_left hlt]; exact hb
          · cases h
      · rename_i es' c o len
        simp only [calm, decide_eq_true_eq] at hc
        simp only at h
        split at h
        · split at h
          · cases h; exact hb
          · split at h
            · split at h
              · split at h
                · cases h
                  rw [List.getElem?_append_left (by simpa using hlt), getElem?_set_other hc]; exact hb
                · cases h
              · cases h
            · cases h
        · cases h
  case mapup ks m k v => simp only [touch, calm] at hc; cases hc
  case clear es z x => simp only [touch, calm] at hc; cases hc
  case call g l =>
    simp only at h
    split at h
    · rename_i v2 H2 hr
      simp only [Option.some.injEq, Prod.mk.injEq] at h
      obtain ⟨rfl, rfl⟩ := h
      simp only [touch] at hc
      split at hc
      · rename_i hqq; rw [hq _ _ _ _ _ hqq hr]; exact hb
      · simp only [calm, hb] at hc
        split at hc
        · rename_i h1 h2
          cases h1
          simp only [Bool.and_eq_true, decide_eq_true_eq] at hc
          rw [h2, hc.1.1, hc.1.2, AV.beqL_eq _ _ hc.2]
        · rename_i h1 h2; cases h1; exact h2
        · cases hc
    · cases h

def SameAt (H H1 : Hp) (b o n : Nat) : Prop := ∀ st ty cs, H[b]? = some (.cells st ty cs) → o + n ≤ cs.length → ∃ st' ty' cs', H1[b]? = some (.cells st' ty' cs') ∧ cs'.length = cs.length ∧ (cs'.drop o).take n = (cs.drop o).take n
theorem eff_rd (hq : QuietR E rec) {co : CO} {f : Fr} {H H1 : Hp} {v : AV} {b o n : Nat} (he : co.ins.eff = true) (h : evCO rec co f H = some (v, H1)) (hc : calm (.rd b o n) (touch E f H H1 co.ins).2 = true) : SameAt H H1 b o n := by
  intro st ty cs hb hon
  have hlt := (List.getElem?_eq_some_iff.1 hb).1
  have same : H1[b]? = some (.cells st ty cs) → ∃ st' ty' cs', H1[b]? = some (.cells st' ty' cs') ∧ cs'.length = cs.length ∧ (cs'.drop o).take n = (cs.drop o).take n := fun e => ⟨st, ty, cs, e, rfl, rfl⟩
  unfold evCO at h
  cases hi : co.ins <;> first | (rw [hi] at he; cases he; done) | skip
  all_goals rw [hi] at h hc
  case store n' x y =>
    simp only [evI] at h
    obtain ⟨u, hu, hv⟩ := map_some h
    cases hv
    unfold evStore at hu
    simp only [touch] at hc
    split at hu
    · rename_i c o' hx
      rw [hx] at hc
      simp only [calm, Bool.or_eq_true, decide_eq_true_eq] at hc
      split at hu
      · rename_i ty' cs2 hcc
        split at hu
        · rename_i hcond
          cases hu
          by_cases ebc : b = c
          · subst ebc
            rw [hb] at hcc; cases hcc
            refine ⟨1, _, _, by rw [List.getElem?_set_self hlt], stc_length (by rw [hcond.1]; exact hcond.2.1), ?_⟩
            apply List.ext_getElem?
            intro k
            by_cases hk : k < n
            · rw [List.getElem?_take_of_lt hk, List.getElem?_take_of_lt hk, List.getElem?_drop, List.getElem?_drop, stc_get (by rw [hcond.1]; exact hcond.2.1), if_neg (by rw [hcond.1]; omega)]
            · rw [List.getElem?_eq_none (by simp; omega), List.getElem?_eq_none (by simp; omega)]
          · exact same (by rw [getElem?_set_other ebc]; exact hb)
        · cases hu
      · cases hu
    · cases hu
  case append ty2 es s x =>
    simp only [evI] at h
    unfold evAppend at h
    simp only [touch] at hc
    split at h
    · cases h
    · cases hs : s.ev f <;> rw [hs] at h hc <;> first | (simp only at h; cases h; done) | skip
      · simp only at h
        split at h
        · cases h; exact same hb
        · split at h
          · cases h; exact same (by rw [List.getElem?_append_left hlt]; exact hb)
          · cases h
      · simp only at h
        split at h
        · cases h; exact same hb
        · split at h
          · cases h; exact same (by rw [List.getElem?_append_left hlt]; exact hb)
          · cases h
      · rename_i es' c o' len
        simp only [calm, decide_eq_true_eq] at hc
        simp only at h
        split at h
        · split at h
          · cases h; exact same hb
          · split at h
            · split at h
              · split at h
                · cases h
                  exact same (by rw [List.getElem?_append_left (by simpa using hlt), getElem?_set_other hc]; exact hb)
                · cases h
              · cases h
            · cases h
        · cases h
  case mapup ks m k v => simp only [touch, calm] at hc; cases hc
  case clear es z x => simp only [touch, calm] at hc; cases hc
  case call g l =>
    simp only at h
    split at h
    · rename_i v2 H2 hr
      simp only [Option.some.injEq, Prod.mk.injEq] at h
      obtain ⟨rfl, rfl⟩ := h
      simp only [touch] at hc
      split at hc
      · rename_i hqq; exact same (by rw [hq _ _ _ _ _ hqq hr]; exact hb)
      · simp only [calm, hb] at hc
        split at hc
        · rename_i h1 h2
          cases h1
          simp only [Bool.and_eq_true, decide_eq_true_eq] at hc
          exact ⟨_, _, _, h2, hc.1.symm, (AV.beqL_eq _ _ hc.2).symm⟩
        · cases hc
    · cases h

/-- A look farther into a heap that goes on longer. -/
theorem peek_more {f : Fr} {H H1 X : Hp} {i : CI} {v : AV} (hp : i.peeks = true) (h : evI f H i = some (v, H1)) : H1 = H ∧ evI f (H ++ X) i = some (v, H ++ X) := by
  have at' : ∀ {b : Nat} {k : Blk}, H[b]? = some k → (H ++ X)[b]? = some k := fun {b k} e => by rw [List.getElem?_append_left (List.getElem?_eq_some_iff.1 e).1]; exact e
  cases i <;> first | (cases hp; done) | skip
  case b2s x =>
    simp only [evI] at h ⊢
    split at h
    · rename_i l hl
      obtain ⟨u, hu, hv⟩ := map_some h
      cases hv
      refine ⟨rfl, ?_⟩
      have : elemsOf 1 (H ++ X) (x.ev f) = some l := by
        cases hx : x.ev f <;> rw [hx] at hl <;> first | exact hl | (cases hl; done) | skip
        simp only [elemsOf] at hl ⊢
        split at hl
        · rename_i hes
          split at hl
          · rename_i hb
            rw [if_pos hes, at' hb]
            exact hl
          · cases hl
        · cases hl
      rw [this]
      simp [hu]
    · cases h
  case len k x =>
    have hk : k = 2 := by
      match k, hp with
      | 2, _ => rfl
    subst hk
    simp only [evI] at h ⊢
    split at h
    · rename_i hok
      obtain ⟨n, hn, hv⟩ := map_some h
      cases hv
      refine ⟨rfl, ?_⟩
      have : evLen (H ++ X) (x.ev f) = evLen H (x.ev f) := by
        clear h
        cases hx : x.ev f <;> first | rfl | skip
        rw [hx] at hn
        simp only [evLen] at hn ⊢
        split at hn
        · rename_i hb; rw [at' hb]
        · cases hn
      rw [this, hn]
      rfl
    · cases h
  case lookup ks z ok m k =>
    simp only [evI] at h ⊢
    cases hm : m.ev f <;> rw [hm] at h <;> first | (cases h; done) | skip
    simp only at h ⊢
    split at h
    · rename_i es hb
      split at h
      · rename_i r hr
        simp only [Option.some.injEq, Prod.mk.injEq] at h
        obtain ⟨rfl, rfl⟩ := h
        exact ⟨rfl, by rw [at' hb]; simp [hr]⟩
      · cases h
    · cases h
end Go.EV

/- Drawn regions: the order is checked. -/
namespace Go.EV
open Go.RowKit
variable {P : Program} {Fb : Fz}

theorem mask_bit_on (acc : List Nat) {e : Edge} : ∀ (l : List Edge), e ∈ l → Region.binds .any e = true → (maskOf acc l).testBit e.on = true
  | [], h, _ => by cases h
  | e' :: r, h, hb => by
    unfold maskOf
    rcases List.mem_cons.1 h with rfl | h
    · rw [if_pos hb, Nat.testBit_or, Nat.testBit_or, Nat.testBit_two_pow]
      simp
    · have := mask_bit_on acc r h hb
      split
      · rw [Nat.testBit_or, this, Bool.or_true]
      · exact this
theorem optM_spec {α β : Type} {g : α → Option β} : ∀ (l : List α) (r : List β), optM g l = some r → r.length = l.length ∧ ∀ (x : Nat) (b : β), r[x]? = some b → ∃ a, l[x]? = some a ∧ g a = some b
  | [], r, h => by cases h; exact ⟨rfl, fun x b e => by simp at e⟩
  | a :: l, r, h => by
    unfold optM at h
    split at h
    · rename_i b hb
      obtain ⟨r', hr, rfl⟩ := map_some h
      obtain ⟨h1, h2⟩ := optM_spec l r' hr
      refine ⟨by simp [h1], fun x b' e => ?_⟩
      cases x with
      | zero => simp at e; subst e; exact ⟨a, rfl, hb⟩
      | succ x => exact h2 x b' (by simpa using e)
    · cases h

/-- What the check tells. -/
structure Dr (P : Program) (ops : Array Oper) (ms : List Nat) (cos : List CO) : Prop where
  len : cos.length = ops.size
  cov : ∀ i, i < ops.size → ∃ (x : Nat) (o : CO), cos[x]? = some o ∧ o.ix = i
  at_ : ∀ (x : Nat) (o : CO), cos[x]? = some o → ∃ op, ops[o.ix]? = some op ∧ OpC P ops op o
  fl : ∀ (x : Nat) (o : CO), cos[x]? = some o → (o.ins.makes = true ∨ o.ins.reads = true ∨ o.ins.peeks = true) → ∀ (y : Nat) (q : CO), cos[y]? = some q → q.ins.eff = true → q.ix ≠ o.ix → pred ms o.ix q.ix = false → pred ms q.ix o.ix = false → y ∈ o.fl
  pr : ∀ (x y : Nat) (a b : CO), x < y → cos[x]? = some a → cos[y]? = some b → a.ix ≠ b.ix ∧ pred ms a.ix b.ix = false ∧ (a.ins.eff = true → pred ms b.ix a.ix = true) ∧ ∀ p, a.dst = some p → b.dst ≠ some p
  pk : ∀ (x : Nat) (o : CO), cos[x]? = some o → o.ins.peeks = true → o.fl = []
  rd : ∀ (x : Nat) (o : CO) (p : Pth), cos[x]? = some o → p ∈ o.ps → ∀ (y : Nat) (q : CO), cos[y]? = some q → q.dst = some p → pred ms o.ix q.ix = true ∨ pred ms q.ix o.ix = true ∨ q.ix = o.ix
  lt : ∀ (i j : Nat), i < ops.size → pred ms i j = true → j < i

theorem compDraw_Dr {ops : Array Oper} {cos : List CO} (h : compDraw P ops = some cos) : Dr P ops (masks ops.toList []) cos := by
  unfold compDraw at h
  simp only at h
  generalize hms : masks ops.toList [] = ms at h ⊢
  split at h
  · rename_i cos0 h0
    split at h
    · rename_i hok
      cases h
      obtain ⟨hl0, hat0⟩ := optM_spec _ _ h0
      have hat : ∀ {x : Nat} {o : CO}, (cos0.map fun o => { o with fl := floats ms cos0 o })[x]? = some o → ∃ o0, cos0[x]? = some o0 ∧ o = { o0 with fl := floats ms cos0 o0 } := by
        intro x o e
        rw [List.getElem?_map] at e
        obtain ⟨o0, h1, h2⟩ := map_some e
        exact ⟨o0, h1, h2.symm⟩
      unfold okDraw at hok
      simp only [Bool.and_eq_true] at hok
      obtain ⟨⟨⟨⟨k1, k2⟩, k3⟩, k4⟩, k5⟩ := hok
      refine ⟨by simpa using k1, fun i hi => ?_, fun x o e => ?_, fun x o e hk y q e2 he hne hp1 hp2 => ?_, fun x y a b hxy e1 e2 => ?_, fun x o e hp => ?_, fun x o p e hp y q e2 hd => ?_, fun i j hi hp => ?_⟩
      · rw [List.all_eq_true] at k2
        have := k2 i (List.mem_range.2 hi)
        rw [List.any_eq_true] at this
        obtain ⟨o, ho, hi2⟩ := this
        obtain ⟨x, hx, hxe⟩ := List.getElem_of_mem ho
        exact ⟨x, o, by rw [List.getElem?_eq_getElem hx, hxe], by simpa using hi2⟩
      · obtain ⟨o0, e0, rfl⟩ := hat e
        obtain ⟨i, _, hc⟩ := hat0 x o0 e0
        obtain ⟨op, q1, q2, q3⟩ := compO1_spec hc
        exact ⟨op, by rw [q3]; exact q1, ⟨q2.dst, q2.guard, q2.ins⟩⟩
      · obtain ⟨o0, e0, rfl⟩ := hat e
        obtain ⟨q0, e20, rfl⟩ := hat e2
        show y ∈ floats ms cos0 o0
        unfold floats
        rw [if_pos (by simpa [or_assoc] using hk), List.mem_filter, List.mem_range]
        refine ⟨(List.getElem?_eq_some_iff.1 e20).1, ?_⟩
        rw [e20]
        simp only [Bool.and_eq_true, Bool.not_eq_true', bne_iff_ne, ne_eq]
        exact ⟨⟨⟨hne, he⟩, hp1⟩, hp2⟩
      · have := pairs_at _ x y a b k3 hxy e1 e2
        simp only [Bool.and_eq_true, Bool.not_eq_true', Bool.or_eq_true, beq_eq_false_iff_ne, ne_eq] at this
        obtain ⟨⟨⟨t1, t2⟩, t3⟩, t4⟩ := this
        refine ⟨t1, t2, fun he => ?_, fun p hp hb => ?_⟩
        · rcases t3 with t3 | t3
          · rw [he] at t3; cases t3
          · exact t3
        · rw [hp, hb] at t4
          simp at t4
      · rw [List.all_eq_true] at k4
        have := k4 o (List.mem_of_getElem? e)
        simp only [Bool.and_eq_true, hp, Bool.true_and, Bool.not_not] at this
        simpa using this.1
      · rw [List.all_eq_true] at k4
        have := k4 o (List.mem_of_getElem? e)
        simp only [Bool.and_eq_true, List.all_eq_true] at this
        have := this.2 p hp q (List.mem_of_getElem? e2)
        rw [hd] at this
        simp only [BEq.rfl, Bool.not_true, Bool.false_or, Bool.or_eq_true, beq_iff_eq] at this
        rcases this with (t | t) | t
        · exact .inl t
        · exact .inr (.inl t)
        · exact .inr (.inr t)
      · rw [List.all_eq_true] at k5
        have := of_decide_eq_true (k5 i (List.mem_range.2 hi))
        unfold pred at hp
        rcases Nat.lt_or_ge j i with h | h
        · exact h
        · have h2 : ms.getD i 0 < 2 ^ j := Nat.lt_of_lt_of_le this (Nat.pow_le_pow_right (by decide) h)
          rw [Nat.testBit_lt_two_pow h2] at hp
          cases hp
    · cases h
  · cases h

theorem flOk_calm {cos : List CO} {ts : List (Tch × Tch)} {tc : Nat → Tch × Tch} (hts : ∀ (x : Nat) (o : CO), cos[x]? = some o → ts[x]? = some (tc x)) (h : flOk cos ts = true) {x y : Nat} {o q : CO} (ho : cos[x]? = some o) (hq : cos[y]? = some q) (hy : y ∈ o.fl) : calm (tc x).1 (tc y).2 = true := by
  unfold flOk at h
  rw [List.all_eq_true] at h
  have := h (o, tc x) (by
    refine List.mem_of_getElem? (i := x) ?_
    rw [List.getElem?_zip_eq_some]
    exact ⟨ho, hts x o ho⟩)
  simp only [List.all_eq_true] at this
  have := this y hy
  rw [List.getD_eq_getElem?_getD, hts y q hq] at this
  exact this

/-! ## Frames along the text's run -/
theorem putD_dom {d : Option Pth} {v v' : AV} {f : Fr} {p : Pth} (h : (putD d v f).get p = some v') : ∃ u, f.get p = some u := by
  unfold putD at h
  split at h
  · rename_i q
    by_cases e : q = p
    · subst e
      cases hg : f.get q with
      | none => rw [Tr.get_set_none q f v hg] at h; cases h
      | some u => exact ⟨u, rfl⟩
    · rw [Tr.get_set_ne q p f v e] at h; exact ⟨v', h⟩
  · exact ⟨v', h⟩
theorem putD_ne {d : Option Pth} {v : AV} {f : Fr} {p : Pth} (h : d ≠ some p) : (putD d v f).get p = f.get p := by
  unfold putD
  split
  · rename_i q; exact Tr.get_set_ne q p f v (fun e => h (by rw [e]))
  · rfl
section
variable {E : Env} {rec : Task → Res} {cos : List CO} {fs : Nat → Fr} {Hs : Nat → Hp} {vs : Nat → AV} {tc : Nat → Tch × Tch}
theorem fs_dom (tx : ∀ (x : Nat) (o : CO), cos[x]? = some o → TxStep E rec fs Hs vs tc x o) : ∀ (x : Nat), x ≤ cos.length → ∀ p v, (fs x).get p = some v → ∃ u, (fs 0).get p = some u
  | 0, _, p, v, h => ⟨v, h⟩
  | x + 1, hx, p, v, h => by
    have ho : cos[x]? = some cos[x] := List.getElem?_eq_getElem (by omega)
    rw [(tx x _ ho).1] at h
    obtain ⟨u, hu⟩ := putD_dom h
    exact fs_dom tx x (by omega) p u hu
theorem fs_none (tx : ∀ (x : Nat) (o : CO), cos[x]? = some o → TxStep E rec fs Hs vs tc x o) : ∀ (x : Nat), x ≤ cos.length → ∀ p, (∀ (y : Nat) (o : CO), y < x → cos[y]? = some o → o.dst ≠ some p) → (fs x).get p = (fs 0).get p
  | 0, _, p, _ => rfl
  | x + 1, hx, p, h => by
    have ho : cos[x]? = some cos[x] := List.getElem?_eq_getElem (by omega)
    rw [(tx x _ ho).1, putD_ne (h x _ (by omega) ho)]
    exact fs_none tx x (by omega) p fun y o hy e => h y o (by omega) e
theorem fs_some (tx : ∀ (x : Nat) (o : CO), cos[x]? = some o → TxStep E rec fs Hs vs tc x o) : ∀ (x : Nat), x ≤ cos.length → ∀ (p : Pth) (y : Nat) (o : CO) (u : AV), y < x → cos[y]? = some o → o.dst = some p → (fs 0).get p = some u → (∀ (z : Nat) (q : CO), y < z → z < x → cos[z]? = some q → q.dst ≠ some p) → (fs x).get p = some (vs y)
  | 0, _, p, y, o, u, h, _, _, _, _ => by omega
  | x + 1, hx, p, y, o, u, hy, ho, hd, hu, hn => by
    have hox : cos[x]? = some cos[x] := List.getElem?_eq_getElem (by omega)
    rw [(tx x _ hox).1]
    by_cases e : y = x
    · subst e
      rw [ho] at hox
      have e2 : cos[y] = o := (Option.some.inj hox).symm
      rw [e2, hd]
      have : ∃ z, (fs y).get p = some z := by
        by_cases hw : ∃ (z : Nat) (q : CO), z < y ∧ cos[z]? = some q ∧ q.dst = some p
        · -- written before: still there
          have gen : ∀ x, x ≤ cos.length → ∃ z, (fs x).get p = some z := by
            intro x
            induction x with
            | zero => intro _; exact ⟨u, hu⟩
            | succ x ih =>
              intro hx
              obtain ⟨z, hz⟩ := ih (by omega)
              have ho : cos[x]? = some cos[x] := List.getElem?_eq_getElem (by omega)
              rw [(tx x _ ho).1]
              by_cases e : cos[x].dst = some p
              · rw [e]; exact ⟨_, Tr.get_set_same p (fs x) (vs x) z hz⟩
              · rw [putD_ne e]; exact ⟨z, hz⟩
          exact gen y (by omega)
        · rw [fs_none tx y (by omega) p (fun z q hz e hd => hw ⟨z, q, hz, e, hd⟩)]; exact ⟨u, hu⟩
      obtain ⟨z, hz⟩ := this
      exact Tr.get_set_same p (fs y) (vs y) z hz
    · rw [putD_ne (hn x _ (by omega) (by omega) hox)]
      exact fs_some tx x (by omega) p y o u (by omega) ho hd hu fun z q h1 h2 e => hn z q h1 (by omega) e
end

/-- What isn't read is put out of sight. -/
def undo (keep : List Pth) : List CO → Fr → Fr
  | [], f => f
  | q :: r, f => undo keep r (match q.dst with | some p => if p ∈ keep then f else f.set p .und | none => f)
theorem undo_keep {keep : List Pth} {p : Pth} (hp : p ∈ keep) : ∀ (l : List CO) (f : Fr), (undo keep l f).get p = f.get p
  | [], _ => rfl
  | q :: r, f => by
    rw [undo, undo_keep hp r]
    split
    · rename_i p' _
      split
      · rfl
      · rename_i hn
        exact Tr.get_set_ne p' p f .und (fun e => hn (e ▸ hp))
    · rfl
theorem undo_get {keep : List Pth} {p : Pth} {v : AV} : ∀ (l : List CO) (f : Fr), (undo keep l f).get p = some v → (∃ u, f.get p = some u) ∧ (v = .und ∨ (f.get p = some v ∧ (p ∈ keep ∨ ∀ q ∈ l, q.dst ≠ some p)))
  | [], f, h => ⟨⟨v, h⟩, .inr ⟨h, .inr fun q hq => by cases hq⟩⟩
  | q :: r, f, h => by
    by_cases hk : p ∈ keep
    · have h' := h
      rw [undo_keep hk] at h'
      exact ⟨⟨v, h'⟩, .inr ⟨h', .inl hk⟩⟩
    rw [undo] at h
    have more : ∀ {f2 : Fr}, (∀ p', q.dst = some p' → p' ≠ p) → (∃ u, f2.get p = some u) ∧ (v = .und ∨ (f2.get p = some v ∧ (p ∈ keep ∨ ∀ q ∈ r, q.dst ≠ some p))) → f2.get p = f.get p → (∃ u, f.get p = some u) ∧ (v = .und ∨ (f.get p = some v ∧ (p ∈ keep ∨ ∀ x ∈ q :: r, x.dst ≠ some p))) := by
      rintro f2 hne ⟨⟨u, hu⟩, h2⟩ e
      rw [e] at hu h2
      refine ⟨⟨u, hu⟩, ?_⟩
      rcases h2 with h2 | ⟨h2, h3⟩
      · exact .inl h2
      · refine .inr ⟨h2, .inr fun x hx => ?_⟩
        rcases List.mem_cons.1 hx with rfl | hx
        · intro e; exact hne p e rfl
        · rcases h3 with h3 | h3
          · exact absurd h3 hk
          · exact h3 x hx
    cases hd : q.dst with
    | none =>
      rw [hd] at h
      simp only at h
      exact more (fun p' e => by rw [hd] at e; cases e) (undo_get r _ h) rfl
    | some p' =>
      rw [hd] at h
      simp only at h
      by_cases hin : p' ∈ keep
      · rw [if_pos hin] at h
        exact more (fun p2 e => by rw [hd] at e; cases e; rintro rfl; exact hk hin) (undo_get r _ h) rfl
      · rw [if_neg hin] at h
        by_cases e : p' = p
        · subst e
          obtain ⟨⟨u, hu⟩, h2⟩ := undo_get r _ h
          cases hg : f.get p' with
          | none => rw [Tr.get_set_none p' f .und hg] at hu; cases hu
          | some z =>
            refine ⟨⟨z, rfl⟩, .inl ?_⟩
            rcases h2 with h2 | ⟨h2, _⟩
            · exact h2
            · rw [Tr.get_set_same p' f .und z hg] at h2; cases h2; rfl
        · exact more (fun p2 e2 => by rw [hd] at e2; cases e2; exact e) (undo_get r _ h) (Tr.get_set_ne p' p f .und e)
end Go.EV

/- Drawn regions: whatever the order. -/
namespace Go.EV
open Go.RowKit
variable {P : Program} {Fb : Fz}

def Lis (listed : Array Bool) (i : Nat) : Prop := listed.getD i false = true
theorem ready_spec {ops : Array Oper} {listed : Array Bool} (hl : listed.size = ops.size) {i : Nat} (h : i ∈ Region.ready .any ops listed) : i < ops.size ∧ ¬ Lis listed i ∧ ∃ o, ops[i]? = some o ∧ ∀ e ∈ o.after, Region.binds .any e = true → Lis listed e.on := by
  rw [mem_ready] at h
  obtain ⟨h0, o, ho, hall⟩ := h
  have hlt := (Array.getElem?_eq_some_iff.1 ho).1
  refine ⟨hlt, ?_, o, ho, hall⟩
  unfold Lis
  have : listed[i]? = some listed[i] := Array.getElem?_eq_getElem (by omega)
  rw [Array.getD_eq_getD_getElem?, this] at h0 ⊢
  simp at h0 ⊢
  exact h0
theorem lis_set {listed : Array Bool} {i j : Nat} (hi : i < listed.size) : Lis (listed.setIfInBounds i true) j ↔ (j = i ∨ Lis listed j) := by
  unfold Lis
  rw [Array.getD_eq_getD_getElem?, Array.getD_eq_getD_getElem?]
  by_cases e : j = i
  · subst e; rw [Array.getElem?_setIfInBounds_self]; simp [hi]
  · rw [Array.getElem?_setIfInBounds_ne (fun x => e x.symm)]; simp [e]
theorem lis_or {listed : Array Bool} (i : Nat) : Lis listed i ∨ listed.getD i false = false := by
  unfold Lis; cases listed.getD i false <;> simp

/-- The first change of the heap from a place on. -/
theorem next_eff (cos : List CO) : ∀ (k e : Nat), e + k = cos.length → ∃ e', e ≤ e' ∧ e' ≤ cos.length ∧ (∀ (y : Nat) (o : CO), e ≤ y → y < e' → cos[y]? = some o → o.ins.eff = false) ∧ ∀ (o : CO), cos[e']? = some o → o.ins.eff = true
  | 0, e, h => ⟨e, Nat.le_refl _, by omega, fun y o h1 h2 => by omega, fun o ho => by rw [List.getElem?_eq_none (by omega)] at ho; cases ho⟩
  | k + 1, e, h => by
    have ho : cos[e]? = some cos[e] := List.getElem?_eq_getElem (by omega)
    cases he : cos[e].ins.eff with
    | true => exact ⟨e, Nat.le_refl _, by omega, fun y o h1 h2 => by omega, fun o ho' => by rw [ho] at ho'; cases ho'; exact he⟩
    | false =>
      obtain ⟨e', h1, h2, h3, h4⟩ := next_eff cos k (e + 1) (by omega)
      refine ⟨e', by omega, h2, fun y o hy hy2 hoy => ?_, h4⟩
      by_cases e0 : y = e
      · subst e0; rw [ho] at hoy; cases hoy; exact he
      · exact h3 y o (by omega) hy2 hoy

section
variable {E : Env} {rec : Task → Res} {ops : Array Oper} {cos : List CO} {fs : Nat → Fr} {Hs : Nat → Hp} {vs : Nat → AV} {tc : Nat → Tch × Tch}

theorem tx_push {x : Nat} {o : CO} (h : TxStep E rec fs Hs vs tc x o) (hn : o.ins.eff = false) : Hs (x + 1) = Hs x ∨ ∃ blk, Hs (x + 1) = Hs x ++ [blk] := by
  rcases h.2 with ⟨_, h2, _⟩ | ⟨_, _, h2, _⟩
  · exact noneff_push hn h2
  · exact .inl h2
theorem chain_push (tx : ∀ (x : Nat) (o : CO), cos[x]? = some o → TxStep E rec fs Hs vs tc x o) {e : Nat} : ∀ (e' : Nat), e ≤ e' → e' ≤ cos.length → (∀ (y : Nat) (o : CO), e ≤ y → y < e' → cos[y]? = some o → o.ins.eff = false) → ∃ X, Hs e' = Hs e ++ X := by
  intro e'
  induction e' with
  | zero => intro h1 _ _; have : e = 0 := by omega
            subst this; exact ⟨[], by simp⟩
  | succ n ih =>
    intro h1 h2 h3
    by_cases e0 : e = n + 1
    · subst e0; exact ⟨[], by simp⟩
    · obtain ⟨X, hX⟩ := ih (by omega) (by omega) (fun y o a b c => h3 y o a (by omega) c)
      have ho : cos[n]? = some cos[n] := List.getElem?_eq_getElem (by omega)
      rcases tx_push (tx n _ ho) (h3 n _ (by omega) (by omega) ho) with h | ⟨blk, h⟩
      · exact ⟨X, by rw [h, hX]⟩
      · exact ⟨X ++ [blk], by rw [h, hX, List.append_assoc]⟩

/-- What the frame tells when some operations are done. -/
def Spec (cos : List CO) (fs : Nat → Fr) (vs : Nat → AV) (listed : Array Bool) (p : Pth) (v : AV) : Prop :=
  (∃ (x : Nat) (o : CO), cos[x]? = some o ∧ Lis listed o.ix ∧ o.dst = some p ∧ v = vs x) ∨ ((∀ (x : Nat) (o : CO), cos[x]? = some o → o.dst = some p → ¬ Lis listed o.ix) ∧ (fs 0).get p = some v)

structure Inv (P : Program) (Fb : Fz) (ops : Array Oper) (cos : List CO) (fs : Nat → Fr) (Hs : Nat → Hp) (vs : Nat → AV) (m0 : Mp) (F0 : Fz) (a0 : Act) (w0 : World) (listed : Array Bool) (a : Act) (w : World) (e : Nat) (m : Mp) (F : Fz) : Prop where
  shut : Shut ops listed
  lsz : listed.size = ops.size
  le : e ≤ cos.length
  don : ∀ (x : Nat) (o : CO), cos[x]? = some o → x < e → o.ins.eff = true → Lis listed o.ix
  nxt : ∀ (o : CO), cos[e]? = some o → o.ins.eff = true ∧ ¬ Lis listed o.ix
  fr : ∀ (p : Pth) (v0 : AV), (fs 0).get p = some v0 → ∀ v, Spec cos fs vs listed p v → ∃ v', a.tmps[p.n]? = some v' ∧ VR m F v v'
  hp : WR P Fb m F (Hs e) w
  dom : ∀ b p, m b = some p → m0 b = some p ∨ ∃ (x : Nat) (o : CO), cos[x]? = some o ∧ Lis listed o.ix ∧ (Hs x).length ≤ b ∧ b < (Hs (x + 1)).length
  mono : ∀ x y, x ≤ y → y ≤ e → (Hs x).length ≤ (Hs y).length
  gs : Gs0 m0 F0 (Hs 0) w0 m F (Hs e) w
  dfr : a.defers = a0.defers
  siz : a.tmps.size = a0.tmps.size

/-- A temporary behind 'put'. -/
theorem put_at {ops : Array Oper} {op : Oper} {o : CO} (hoc : OpC P ops op o) (a : Act) (u : Value) (p : Pth) : (o.dst = some p → p.n < a.tmps.size → (a.put op.dst u).tmps[p.n]? = some u) ∧ (o.dst ≠ some p → (a.put op.dst u).tmps[p.n]? = a.tmps[p.n]?) := by
  have hd := hoc.dst
  cases hdst : op.dst with
  | none =>
    rw [hdst] at hd
    have hd' : none = o.dst := Option.some.inj hd
    exact ⟨fun e => (by rw [← hd'] at e; cases e), fun _ => rfl⟩
  | some t =>
    rw [hdst] at hd
    obtain ⟨q, hq, h2⟩ := map_some hd
    have hn := toPth_n hq
    subst hn
    refine ⟨fun e hlt => ?_, fun e => ?_⟩
    · rw [← h2] at e
      cases e
      simp only [Act.put]
      rw [Array.getElem?_setIfInBounds_self]
      simp [hlt]
    · simp only [Act.put]
      rw [Array.getElem?_setIfInBounds_ne (fun e2 => e (by rw [← h2, Pth.n_inj q p e2]))]

/-- What abides when an operation is done that changes no heap or one that does. -/
theorem Inv.next {ms : List Nat} (hD : Dr P ops ms cos) {m0 : Mp} {F0 : Fz} {a0 : Act} {w0 : World} {listed : Array Bool} {a : Act} {w w' : World} {e e' : Nat} {m m' : Mp} {F F' : Fz} {u : Value} {x : Nat} {o : CO} {op : Oper}
    (inv : Inv P Fb ops cos fs Hs vs m0 F0 a0 w0 listed a w e m F) (hx : cos[x]? = some o) (hop : ops[o.ix]? = some op) (hoc : OpC P ops op o) (hf0 : FRel m0 F0 (fs 0) a0.tmps) (hrd : ∀ ed ∈ op.after, Region.binds .any ed = true → Lis listed ed.on)
    (hu : VR m' F' (vs x) u) (hml : MpLe m m') (hfl : FzLe F F')
    (hle : e' ≤ cos.length) (hdon : ∀ (y : Nat) (q : CO), cos[y]? = some q → y < e' → q.ins.eff = true → Lis listed q.ix ∨ y = x) (hnxt : ∀ (q : CO), cos[e']? = some q → q.ins.eff = true ∧ ¬ Lis listed q.ix ∧ e' ≠ x)
    (hhp : WR P Fb m' F' (Hs e') w') (hdom : ∀ b p, m' b = some p → m b = some p ∨ ((Hs x).length ≤ b ∧ b < (Hs (x + 1)).length)) (hmono : ∀ y z, y ≤ z → z ≤ e' → (Hs y).length ≤ (Hs z).length) (hgs : Gs0 m0 F0 (Hs 0) w0 m' F' (Hs e') w') :
    Inv P Fb ops cos fs Hs vs m0 F0 a0 w0 (listed.setIfInBounds o.ix true) (a.put op.dst u) w' e' m' F' := by
  have hix : o.ix < listed.size := by rw [inv.lsz]; exact (Array.getElem?_eq_some_iff.1 hop).1
  have hL : ∀ j, Lis (listed.setIfInBounds o.ix true) j ↔ (j = o.ix ∨ Lis listed j) := fun j => lis_set hix
  have huniq : ∀ {y : Nat} {q : CO}, cos[y]? = some q → q.ix = o.ix → y = x := by
    intro y q hq he
    rcases Nat.lt_trichotomy y x with h | h | h
    · exact absurd he (hD.pr y x q o h hq hx).1
    · exact h
    · exact absurd he.symm (hD.pr x y o q h hx hq).1
  have hdist : ∀ {y : Nat} {q : CO} {p : Pth}, cos[y]? = some q → y ≠ x → q.dst = some p → o.dst ≠ some p := by
    intro y q p hq hne hd
    rcases Nat.lt_or_gt_of_ne hne with h | h
    · exact (hD.pr y x q o h hq hx).2.2.2 p hd
    · exact fun e => (hD.pr x y o q h hx hq).2.2.2 p e hd
  refine ⟨fun i oi hi hli ed hed hb => ?_, by simpa using inv.lsz, hle, fun y q hq hy he => ?_, fun q hq => ?_, fun p v0 h0 v hv => ?_, hhp, fun b p hb => ?_, hmono, hgs, (put_defers ..).trans inv.dfr, (put_size ..).trans inv.siz⟩
  · rcases (hL i).1 hli with rfl | hli
    · rw [hop] at hi; cases hi
      exact (hL _).2 (.inr (hrd ed hed hb))
    · exact (hL _).2 (.inr (inv.shut i oi hi hli ed hed hb))
  · rcases hdon y q hq hy he with h | h
    · exact (hL _).2 (.inr h)
    · subst h; rw [hx] at hq; cases hq; exact (hL _).2 (.inl rfl)
  · obtain ⟨h1, h2, h3⟩ := hnxt q hq
    refine ⟨h1, fun h => ?_⟩
    rcases (hL _).1 h with h | h
    · exact h3 (huniq hq h)
    · exact h2 h
  · have hlt : p.n < a.tmps.size := by
      obtain ⟨v', h1, _⟩ := hf0 p v0 h0
      rw [inv.siz]; exact (Array.getElem?_eq_some_iff.1 h1).1
    rcases hv with ⟨y, q, hq, hlq, hdq, rfl⟩ | ⟨hno, hv⟩
    · rcases (hL _).1 hlq with h | h
      · have := huniq hq h
        subst this
        rw [hx] at hq; cases hq
        exact ⟨u, (put_at hoc a u p).1 hdq hlt, hu⟩
      · by_cases hyx : y = x
        · subst hyx
          rw [hx] at hq; cases hq
          exact ⟨u, (put_at hoc a u p).1 hdq hlt, hu⟩
        · obtain ⟨v', h1, h2⟩ := inv.fr p v0 h0 (vs y) (.inl ⟨y, q, hq, h, hdq, rfl⟩)
          exact ⟨v', by rw [(put_at hoc a u p).2 (hdist hq hyx hdq)]; exact h1, h2.mono hml hfl⟩
    · have hne : o.dst ≠ some p := fun e => hno x o hx e ((hL _).2 (.inl rfl))
      obtain ⟨v', h1, h2⟩ := inv.fr p v0 h0 v (.inr ⟨fun y q hq hd hl => hno y q hq hd ((hL _).2 (.inr hl)), hv⟩)
      exact ⟨v', by rw [(put_at hoc a u p).2 hne]; exact h1, h2.mono hml hfl⟩
  · rcases hdom b p hb with h | h
    · rcases inv.dom b p h with h | ⟨y, q, hq, hl, h1, h2⟩
      · exact .inl h
      · exact .inr ⟨y, q, hq, (hL _).2 (.inr hl), h1, h2⟩
    · exact .inr ⟨x, o, hx, (hL _).2 (.inl rfl), h.1, h.2⟩

/-- Where an operation stands that is ready. -/
theorem Inv.place {m0 : Mp} {F0 : Fz} {a0 : Act} {w0 : World} {listed : Array Bool} {a : Act} {w : World} {e : Nat} {m : Mp} {F : Fz} (hD : Dr P ops (masks ops.toList []) cos) (inv : Inv P Fb ops cos fs Hs vs m0 F0 a0 w0 listed a w e m F) {x : Nat} {o : CO} {op : Oper}
    (hx : cos[x]? = some o) (hop : ops[o.ix]? = some op) (hnl : ¬ Lis listed o.ix) (hrd : ∀ ed ∈ op.after, Region.binds .any ed = true → Lis listed ed.on) : (o.ins.eff = true → x = e) ∧ (o.ins.eff = false → x < e) := by
  have hpr : ∀ j, pred (masks ops.toList []) o.ix j = true → Lis listed j := fun j hp => pred_shut inv.shut o.ix j op hop hrd hp
  have hxl := (List.getElem?_eq_some_iff.1 hx).1
  have hle : x ≤ e := by
    rcases Nat.lt_or_ge e x with h | h
    · have he : cos[e]? = some cos[e] := List.getElem?_eq_getElem (by omega)
      obtain ⟨h1, h2⟩ := inv.nxt _ he
      exact absurd (hpr _ ((hD.pr e x _ o h he hx).2.2.1 h1)) h2
    · exact h
  refine ⟨fun he => ?_, fun he => ?_⟩
  · rcases Nat.lt_or_ge x e with h | h
    · exact absurd (inv.don x o hx h he) hnl
    · omega
  · rcases Nat.lt_or_ge x e with h | h
    · exact h
    · have : x = e := by omega
      subst this
      rw [(inv.nxt o hx).1] at he; cases he

/-- The frame that an operation sees. -/
theorem Inv.sees {m0 : Mp} {F0 : Fz} {a0 : Act} {w0 : World} {listed : Array Bool} {a : Act} {w : World} {e : Nat} {m : Mp} {F : Fz} (hD : Dr P ops (masks ops.toList []) cos) (tx : ∀ (x : Nat) (o : CO), cos[x]? = some o → TxStep E rec fs Hs vs tc x o) (hf0 : FRel m0 F0 (fs 0) a0.tmps)
    (inv : Inv P Fb ops cos fs Hs vs m0 F0 a0 w0 listed a w e m F) {x : Nat} {o : CO} {op : Oper}
    (hx : cos[x]? = some o) (hop : ops[o.ix]? = some op) (hnl : ¬ Lis listed o.ix) (hrd : ∀ ed ∈ op.after, Region.binds .any ed = true → Lis listed ed.on) : FRel m F (undo o.ps cos (fs x)) a.tmps := by
  have hpr : ∀ j, pred (masks ops.toList []) o.ix j = true → Lis listed j := fun j hp => pred_shut inv.shut o.ix j op hop hrd hp
  have hxl : x ≤ cos.length := Nat.le_of_lt (List.getElem?_eq_some_iff.1 hx).1
  intro p v hv
  obtain ⟨⟨u, hu⟩, h2⟩ := undo_get cos (fs x) hv
  obtain ⟨v0, h0⟩ := fs_dom tx x hxl p u hu
  rcases h2 with rfl | ⟨h2, h3⟩
  · obtain ⟨v', h1, _⟩ := hf0 p v0 h0
    have hlt : p.n < a.tmps.size := by rw [inv.siz]; exact (Array.getElem?_eq_some_iff.1 h1).1
    exact ⟨a.tmps[p.n], Array.getElem?_eq_getElem hlt, .und _⟩
  · refine inv.fr p v0 h0 v ?_
    have nolist : (∀ (y : Nat) (q : CO), y < x → cos[y]? = some q → q.dst ≠ some p) → (∀ (y : Nat) (q : CO), cos[y]? = some q → q.dst = some p → ¬ Lis listed q.ix) → Spec cos fs vs listed p v := by
      intro h4 h5
      refine .inr ⟨h5, ?_⟩
      rw [← fs_none tx x hxl p h4]; exact h2
    rcases h3 with hps | hno
    · by_cases hw : ∃ (y : Nat) (q : CO), cos[y]? = some q ∧ q.dst = some p ∧ Lis listed q.ix
      · obtain ⟨y, q, hq, hd, hl⟩ := hw
        have hop' : ∃ oq, ops[q.ix]? = some oq := let ⟨oq, h, _⟩ := hD.at_ y q hq; ⟨oq, h⟩
        have hpq : pred (masks ops.toList []) o.ix q.ix = true := by
          rcases hD.rd x o p hx hps y q hq hd with h | h | h
          · exact h
          · obtain ⟨oq, hoq⟩ := hop'
            exact absurd (pred_shut inv.shut q.ix o.ix oq hoq (inv.shut q.ix oq hoq hl) h) hnl
          · rw [h] at hl; exact absurd hl hnl
        have hyx : y < x := by
          rcases Nat.lt_trichotomy y x with h | h | h
          · exact h
          · subst h; rw [hx] at hq; cases hq; exact absurd hl hnl
          · rw [(hD.pr x y o q h hx hq).2.1] at hpq; cases hpq
        have hval := fs_some tx x hxl p y q v0 hyx hq hd h0 (fun z qz h6 h7 hz => (hD.pr y z q qz h6 hq hz).2.2.2 p hd)
        rw [h2] at hval
        exact .inl ⟨y, q, hq, hl, hd, Option.some.inj hval⟩
      · have h5 : ∀ (y : Nat) (q : CO), cos[y]? = some q → q.dst = some p → ¬ Lis listed q.ix := fun y q hq hd hl => hw ⟨y, q, hq, hd, hl⟩
        refine nolist (fun y q hyx hq hd => ?_) h5
        rcases hD.rd x o p hx hps y q hq hd with h | h | h
        · exact h5 y q hq hd (hpr _ h)
        · rw [(hD.pr y x q o hyx hq hx).2.1] at h; cases h
        · exact (hD.pr y x q o hyx hq hx).1 h
    · exact nolist (fun y q _ hq => hno q (List.mem_of_getElem? hq)) (fun y q hq hd => absurd hd (hno q (List.mem_of_getElem? hq)))
end
end Go.EV

/- Drawn regions: one operation, whichever is ready. -/
namespace Go.EV
open Go.RowKit
variable {P : Program} {Fb : Fz}

theorem SameAt.trans {H H1 H2 : Hp} {b o n : Nat} (h : SameAt H H1 b o n) (k : SameAt H1 H2 b o n) : SameAt H H2 b o n := by
  intro st ty cs hb hon
  obtain ⟨st', ty', cs', h1, h2, h3⟩ := h st ty cs hb hon
  obtain ⟨st2, ty2, cs2, k1, k2, k3⟩ := k st' ty' cs' h1 (by omega)
  exact ⟨st2, ty2, cs2, k1, k2.trans h2, k3.trans h3⟩
theorem SameAt.more (H X : Hp) (b o n : Nat) : SameAt H (H ++ X) b o n := fun st ty cs hb _ =>
  ⟨st, ty, cs, by rw [List.getElem?_append_left (List.getElem?_eq_some_iff.1 hb).1]; exact hb, rfl, rfl⟩
theorem comp_load {o : Oper} {n : Nat} {ag : Bool} {x : CX} (h : compI P o = .load n ag x) (ha : ag = false) : n = 1 := by
  unfold compI at h
  cases h0 : compI0 P o with
  | none => rw [h0] at h; cases h
  | some i =>
    rw [h0] at h
    have : i = .load n ag x := h
    subst this
    unfold compI0 at h0
    split at h0
    case h_8 =>
      split at h0
      · rename_i hl _
        cases h0
        unfold lay? at hl
        split at hl
        · simp only [Option.some.injEq, Prod.mk.injEq] at hl; rw [ha] at hl; cases hl.2
        · simp only [Option.some.injEq, Prod.mk.injEq] at hl; exact hl.1.symm
        · cases hl
      · cases h0
    all_goals
      repeat' split at h0
      all_goals first
        | (cases h0; done)
        | (obtain ⟨c, h1, h2⟩ := map_some h0; cases h2; done)
theorem load_same {f : Fr} {H H' : Hp} {n : Nat} {ag : Bool} {x : CX} {v : AV} {H1 : Hp} (hn : ag = false → n = 1) (h : evI f H (.load n ag x) = some (v, H1)) (hs : ∀ b o, x.ev f = .ptr b o → SameAt H H' b o n) : evI f H' (.load n ag x) = some (v, H') := by
  simp only [evI] at h ⊢
  obtain ⟨u, hu, hv⟩ := map_some h
  cases hv
  have : evLoad H' n ag (x.ev f) = some v := by
    cases hx : x.ev f <;> rw [hx] at hu <;> first | exact hu | (cases hu; done) | skip
    rename_i b o
    simp only [evLoad] at hu ⊢
    split at hu
    · rename_i st ty cs hb
      have go : o + n ≤ cs.length → ldc cs o n ag = some v → (match H'[b]? with | some (.cells _ _ cs) => ldc cs o n ag | _ => none) = some v := by
        intro hon hl
        obtain ⟨st', ty', cs', h1, h2, h3⟩ := hs b o hx st ty cs hb hon
        rw [h1]
        simp only
        cases ag with
        | true =>
          simp only [ldc] at hl ⊢
          rw [if_pos hon] at hl
          rw [if_pos (by omega), h3]
          exact hl
        | false =>
          have hn1 := hn rfl
          subst hn1
          simp only [ldc] at hl ⊢
          have h4 := congrArg (fun l : List AV => l[0]?) h3
          simp only [List.getElem?_take, List.getElem?_drop, Nat.add_zero] at h4
          simp at h4
          rw [h4]; exact hl
      refine go ?_ hu
      cases ag with
      | true =>
        simp only [ldc] at hu
        split at hu
        · assumption
        · cases hu
      | false =>
        have hn1 := hn rfl
        subst hn1
        simp only [ldc] at hu
        have := (List.getElem?_eq_some_iff.1 hu).1
        omega
    · cases hu
  rw [this]
  rfl

section
variable {E : Env} {rec : Task → Res} {ops : Array Oper} {cos : List CO} {fs : Nat → Fr} {Hs : Nat → Hp} {vs : Nat → AV} {tc : Nat → Tch × Tch}
variable {m0 : Mp} {F0 : Fz} {a0 : Act} {w0 : World} {listed : Array Bool} {a : Act} {w : World} {e : Nat} {m : Mp} {F : Fz}

theorem Inv.free (hD : Dr P ops (masks ops.toList []) cos) (inv : Inv P Fb ops cos fs Hs vs m0 F0 a0 w0 listed a w e m F) {x : Nat} {o : CO} (hx : cos[x]? = some o) (hnl : ¬ Lis listed o.ix) (he : o.ins.eff = false) (hk : o.ins.makes = true ∨ o.ins.reads = true ∨ o.ins.peeks = true) :
    ∀ (y : Nat) (q : CO), x ≤ y → y < e → cos[y]? = some q → q.ins.eff = true → y ∈ o.fl := by
  intro y q hxy hye hq hqe
  have hne : y ≠ x := by rintro rfl; rw [hx] at hq; cases hq; rw [he] at hqe; cases hqe
  have hlt : x < y := by omega
  have h3 := hD.pr x y o q hlt hx hq
  have hl := inv.don y q hq hye hqe
  refine hD.fl x o hx hk y q hq hqe (fun e => h3.1 e.symm) h3.2.1 ?_
  cases hp : pred (masks ops.toList []) q.ix o.ix with
  | false => rfl
  | true =>
    obtain ⟨oq, hoq, _⟩ := hD.at_ y q hq
    exact absurd (pred_shut inv.shut q.ix o.ix oq hoq (inv.shut q.ix oq hoq hl) hp) hnl

theorem keep_mk (hq : QuietR E rec) (tx : ∀ (x : Nat) (o : CO), cos[x]? = some o → TxStep E rec fs Hs vs tc x o) {x : Nat} {blk : Blk} (h1 : Hs (x + 1) = Hs x ++ [blk]) (hle : e ≤ cos.length) (hcalm : ∀ (y : Nat) (q : CO), x ≤ y → y < e → cos[y]? = some q → q.ins.eff = true → calm (.mk (Hs x).length) (tc y).2 = true) :
    ∀ y, x + 1 ≤ y → y ≤ e → (Hs y)[(Hs x).length]? = some blk := by
  intro y
  induction y with
  | zero => intro h; omega
  | succ y ih =>
    intro hy hye
    by_cases e0 : y = x
    · subst e0; rw [h1]; simp
    · have hb := ih (by omega) (by omega)
      have hoy : cos[y]? = some cos[y] := List.getElem?_eq_getElem (by omega)
      have hlt := (List.getElem?_eq_some_iff.1 hb).1
      rcases (tx y _ hoy).2 with ⟨_, h2, h3⟩ | ⟨_, _, h2, _⟩
      · cases he : cos[y].ins.eff with
        | true =>
          have := hcalm y _ (by omega) (by omega) hoy he
          rw [h3] at this
          exact eff_mk hq he h2 hb this
        | false =>
          rcases noneff_push he h2 with h | ⟨k, h⟩
          · rw [h]; exact hb
          · rw [h, List.getElem?_append_left hlt]; exact hb
      · rw [h2]; exact hb
theorem keep_rd (hq : QuietR E rec) (tx : ∀ (x : Nat) (o : CO), cos[x]? = some o → TxStep E rec fs Hs vs tc x o) {x b o n : Nat} (hle : e ≤ cos.length) (hcalm : ∀ (y : Nat) (q : CO), x ≤ y → y < e → cos[y]? = some q → q.ins.eff = true → calm (.rd b o n) (tc y).2 = true) :
    ∀ y, x ≤ y → y ≤ e → SameAt (Hs x) (Hs y) b o n := by
  intro y
  induction y with
  | zero => intro h _; have : x = 0 := by omega
            subst this; exact fun st ty cs hb _ => ⟨st, ty, cs, hb, rfl, rfl⟩
  | succ y ih =>
    intro hy hye
    by_cases e0 : x = y + 1
    · subst e0; exact fun st ty cs hb _ => ⟨st, ty, cs, hb, rfl, rfl⟩
    · refine (ih (by omega) (by omega)).trans ?_
      have hoy : cos[y]? = some cos[y] := List.getElem?_eq_getElem (by omega)
      rcases (tx y _ hoy).2 with ⟨_, h2, h3⟩ | ⟨_, _, h2, _⟩
      · cases he : cos[y].ins.eff with
        | true =>
          have := hcalm y _ (by omega) (by omega) hoy he
          rw [h3] at this
          exact eff_rd hq he h2 this
        | false =>
          rcases noneff_push he h2 with h | ⟨k, h⟩
          · rw [h]; exact fun st ty cs hb _ => ⟨st, ty, cs, hb, rfl, rfl⟩
          · rw [h]; exact SameAt.more _ _ _ _ _
      · rw [h2]; exact fun st ty cs hb _ => ⟨st, ty, cs, hb, rfl, rfl⟩
theorem touch_mk {f : Fr} {H H1 : Hp} {i : CI} {v : AV} {blk : Blk} (hm : i.makes = true) (h : evI f H i = some (v, H ++ [blk])) : (touch E f H H1 i).1 = .mk H.length := by
  cases i <;> first | (cases hm; done) | rfl | skip
  rename_i ty es z n l
  simp only [touch]
  split
  · rename_i h0
    simp only [evI] at h
    obtain ⟨u, hu, hv⟩ := map_some h
    rw [if_pos h0] at hv
    have := congrArg (fun p : AV × Hp => p.2.length) hv
    simp at this
  · rfl

theorem mono_ext (tx : ∀ (x : Nat) (o : CO), cos[x]? = some o → TxStep E rec fs Hs vs tc x o) (hm : ∀ y z, y ≤ z → z ≤ e → (Hs y).length ≤ (Hs z).length) {e' : Nat} (h1 : (Hs e).length ≤ (Hs (e + 1)).length) (hle : e' ≤ cos.length) (hno : ∀ (y : Nat) (o : CO), e + 1 ≤ y → y < e' → cos[y]? = some o → o.ins.eff = false) :
    ∀ y z, y ≤ z → z ≤ e' → (Hs y).length ≤ (Hs z).length := by
  intro y z hyz hz
  by_cases h2 : z ≤ e
  · exact hm y z hyz h2
  · have up : ∀ y, e + 1 ≤ y → y ≤ z → (Hs y).length ≤ (Hs z).length := by
      intro y hy hyz
      obtain ⟨X, hX⟩ := chain_push tx z hyz (by omega) (fun q o a b c => hno q o (by omega) (by omega) c)
      rw [hX]; simp
    by_cases h3 : y ≤ e
    · exact Nat.le_trans (hm y e h3 (Nat.le_refl _)) (Nat.le_trans h1 (up (e + 1) (Nat.le_refl _) (by omega)))
    · exact up y (by omega) hyz

theorem Inv.step {B : Fence} (hB : Open B) (hrec : CallS B P Fb rec) (hqr : QuietR E rec) {rd : Option Nat} (hD : Dr P ops (masks ops.toList []) cos) (tx : ∀ (x : Nat) (o : CO), cos[x]? = some o → TxStep E rec fs Hs vs tc x o)
    (hcalm : ∀ (x y : Nat) (o q : CO), cos[x]? = some o → cos[y]? = some q → y ∈ o.fl → calm (tc x).1 (tc y).2 = true) (hf0 : FRel m0 F0 (fs 0) a0.tmps) (hlow : ∀ b p, m0 b = some p → b < (Hs 0).length) (inv : Inv P Fb ops cos fs Hs vs m0 F0 a0 w0 listed a w e m F) {i : Nat} (hi : i ∈ Region.ready .any ops listed)
    {K : Act → World → Prop} {Q : Exit → Act → World → Prop} (k : ∀ a' w' e' m' F', Inv P Fb ops cos fs Hs vs m0 F0 a0 w0 (listed.setIfInBounds i true) a' w' e' m' F' → K a' w') : wpOpIn (fen B rd) 0 P ops Q i K a w := by
  obtain ⟨hlt, hnl, op, hop, hrd⟩ := ready_spec inv.lsz hi
  obtain ⟨x, o, hx, rfl⟩ := hD.cov i hlt
  obtain ⟨op', hop', hoc⟩ := hD.at_ x o hx
  rw [hop] at hop'; cases hop'
  have hsee := inv.sees hD tx hf0 hx hop hnl hrd
  have hplace := inv.place hD hx hop hnl hrd
  have hcg : ∀ p ∈ o.ps, (undo o.ps cos (fs x)).get p = (fs x).get p := fun p hp => undo_keep hp cos (fs x)
  have hxl := (List.getElem?_eq_some_iff.1 hx).1
  obtain ⟨_, hst⟩ := tx x o hx
  have hwant : wanted o.guard (undo o.ps cos (fs x)) = wanted o.guard (fs x) := by
    unfold wanted
    cases hg : o.guard with
    | none => rfl
    | some g =>
      simp only
      rw [hcg g.1 (by unfold CO.ps; rw [hg]; simp)]
  -- behind a change of the heap: on to the next
  have after : o.ins.eff = true → ∀ {m1 : Mp} {F1 : Fz} {u : Value} {w1 : World}, VR m1 F1 (vs x) u → WR P Fb m1 F1 (Hs (e + 1)) w1 → Gs m F (Hs e) w m1 F1 (Hs (e + 1)) w1 → K (a.put op.dst u) w1 := by
    intro he m1 F1 u w1 q1 q2 q3
    have hxe := hplace.1 he
    subst hxe
    obtain ⟨e', h1, h2, h3, h4⟩ := next_eff cos (cos.length - (x + 1)) (x + 1) (by omega)
    obtain ⟨X, hX⟩ := chain_push tx e' h1 h2 h3
    refine k _ _ e' m1 F1 (inv.next hD hx hop hoc hf0 hrd q1 q3.ml q3.fl h2 (fun y q hq hy hqe => ?_) (fun q hq => ?_) ?_ (fun b p hb => ?_) (mono_ext tx inv.mono q3.hl h2 h3) ?_)
    · rcases Nat.lt_trichotomy y x with h | h | h
      · exact .inl (inv.don y q hq h hqe)
      · exact .inr h
      · rw [h3 y q (by omega) hy hq] at hqe; cases hqe
    · refine ⟨h4 q hq, fun hl => ?_, by omega⟩
      obtain ⟨oq, hoq, _⟩ := hD.at_ e' q hq
      exact hnl (pred_shut inv.shut q.ix o.ix oq hoq (inv.shut q.ix oq hoq hl) ((hD.pr x e' o q (by omega) hx hq).2.2.1 he))
    · refine q2.re fun b p hb => ?_
      rw [hX, List.getElem?_append_left (q2.lt hb)]
    · cases hmb : m b with
      | none => exact .inr (q3.nm b p hmb hb)
      | some p0 => have := q3.ml b p0 hmb; rw [hb] at this; cases this; exact .inl rfl
    · refine inv.gs.trans (q3.to0.re (fun b p hb => rfl) fun b p hb => ?_)
      rw [hX, List.getElem?_append_left (Nat.lt_of_lt_of_le (inv.hp.lt hb) q3.hl)]
  -- behind anything else
  have stay : o.ins.eff = false → ∀ {m1 : Mp} {F1 : Fz} {u : Value} {w1 : World}, VR m1 F1 (vs x) u → WR P Fb m1 F1 (Hs e) w1 → Gs0 m F (Hs e) w m1 F1 (Hs e) w1 → (∀ b p, m1 b = some p → m b = some p ∨ ((Hs x).length ≤ b ∧ b < (Hs (x + 1)).length)) → K (a.put op.dst u) w1 := by
    intro he m1 F1 u w1 q1 q2 q3 q4
    have hxe := hplace.2 he
    exact k _ _ e m1 F1 (inv.next hD hx hop hoc hf0 hrd q1 q3.ml q3.fl inv.le (fun y q hq hy hqe => .inl (inv.don y q hq hy hqe)) (fun q hq => ⟨(inv.nxt q hq).1, (inv.nxt q hq).2, by omega⟩) q2 q4 inv.mono (inv.gs.trans q3))
  unfold wpOpIn
  rw [hop]
  simp only
  rcases hst with ⟨hw1, hco, htc⟩ | ⟨hw0, hv, hH, htc⟩
  · rw [wanted_rel hoc.guard (fun p q _ => hsee p) (hwant.trans hw1)]
    simp only [if_true]
    have hco' : evCO rec o (undo o.ps cos (fs x)) (Hs x) = some (vs x, Hs (x + 1)) := by
      rw [evCO_congr (f' := fs x) (fun p hp => hcg p (by unfold CO.ps; exact List.mem_append_right _ hp))]; exact hco
    cases he : o.ins.eff with
    | true =>
      have hxe := hplace.1 he
      subst hxe
      exact walk_op hB hrec hoc.ins hsee inv.hp hco' fun m1 F1 u w1 q1 q2 q3 => after he q1 q2 q3
    | false =>
      have hxe := hplace.2 he
      have hI : evI (undo o.ps cos (fs x)) (Hs x) o.ins = some (vs x, Hs (x + 1)) := by
        unfold evCO at hco'
        cases hin : o.ins <;> rw [hin] at hco' he <;> first | exact hco' | cases he
      have here : ∀ f, evI f (Hs e) o.ins = some (vs x, Hs e) → evCO rec o f (Hs e) = some (vs x, Hs e) := by
        intro f h
        unfold evCO
        cases hin : o.ins <;> rw [hin] at h he <;> first | exact h | cases he
      have plain : evI (undo o.ps cos (fs x)) (Hs e) o.ins = some (vs x, Hs e) → Oper.wpIn (fen B rd) 0 P op a w K Q := fun h =>
        walk_op hB hrec hoc.ins hsee inv.hp (here _ h) fun m1 F1 u w1 q1 q2 q3 => stay he q1 q2 q3.to0 fun b p hb => by
          cases hmb : m b with
          | none => have := q3.nm b p hmb hb; omega
          | some p0 => have := q3.ml b p0 hmb; rw [hb] at this; cases this; exact .inl rfl
      by_cases hmk : o.ins.makes = true
      · -- a maker
        have hfree := inv.free hD hx hnl he (.inl hmk)
        have hins := hoc.ins
        have hL : (∃ blk, Hs (x + 1) = Hs x ++ [blk]) → m (Hs x).length = none := by
          rintro ⟨blk, hblk⟩
          have hgrow : (Hs (x + 1)).length = (Hs x).length + 1 := by rw [hblk]; simp
          cases hm : m (Hs x).length with
          | none => rfl
          | some p =>
            rcases inv.dom _ p hm with h | ⟨y, q, hq, hl, h1, h2⟩
            · have hb := hlow _ p h
              have := inv.mono 0 x (Nat.zero_le _) (by omega)
              omega
            · rcases Nat.lt_trichotomy y x with h | h | h
              · have := inv.mono (y + 1) x (by omega) (by omega); omega
              · subst h; rw [hx] at hq; cases hq; exact absurd hl hnl
              · have hye : y < e := by
                  rcases Nat.lt_trichotomy y e with h3 | h3 | h3
                  · exact h3
                  · subst h3; exact absurd hl (inv.nxt q hq).2
                  · have hyl := (List.getElem?_eq_some_iff.1 hq).1
                    have hoe : cos[e]? = some cos[e] := List.getElem?_eq_getElem (by omega)
                    obtain ⟨n1, n2⟩ := inv.nxt _ hoe
                    obtain ⟨oq, hoq, _⟩ := hD.at_ y q hq
                    exact absurd (pred_shut inv.shut q.ix _ oq hoq (inv.shut q.ix oq hoq hl) ((hD.pr e y _ q h3 hoe hq).2.2.1 n1)) n2
                have := inv.mono (x + 1) y (by omega) (by omega)
                omega
        obtain ⟨hshape, m1, nx, w1, r1, r2, r3, r4, r5⟩ := simc_compI (P := P) (o := op) (by rw [← hins]; exact hmk) m F _ a (Hs x) (Hs e) w (vs x) (Hs (x + 1)) hsee inv.hp (by rw [← hins]; exact hI) hL (fun blk hblk => by
          refine keep_mk hqr tx hblk inv.le (fun y q hxy hye hq hqe => ?_) e hxe (Nat.le_refl _)
          have := hcalm x y o q hx hq (hfree y q hxy hye hq hqe)
          rw [htc, touch_mk hmk (by rw [← hblk, ← evI_congr (f := undo o.ps cos (fs x)) (f' := fs x) (fun p hp => hcg p (by unfold CO.ps; exact List.mem_append_right _ hp))]; exact hI)] at this
          exact this)
        have hnd : ∀ c, op.op ≠ .defer c := comp_defer (P := P) hoc.ins hco
        refine ⟨fun g _ => fen_fn hB rd g, ?_⟩
        rw [Oper.semAt_eq _ _ _ hnd, r1]
        have hdom : ∀ b p, m1 b = some p → m b = some p ∨ ((Hs x).length ≤ b ∧ b < (Hs (x + 1)).length) := by
          intro b p hb
          rcases r5 with rfl | ⟨p1, blk, rfl, hblk⟩
          · exact .inl hb
          · rcases upd_cases hb with ⟨rfl, rfl⟩ | ⟨_, h⟩
            · exact .inr ⟨Nat.le_refl _, by rw [hblk]; simp⟩
            · exact .inl h
        rcases r2 with ⟨u, rfl, hu⟩ | ⟨rfl, hu⟩
        · exact stay he hu r3 r4 hdom
        · exact stay he (u := undef) (by rw [hu]; exact .tup [] #[] rfl (fun i v v' e => by simp at e)) r3 r4 hdom
      by_cases hre : o.ins.reads = true
      · have hfree := inv.free hD hx hnl he (.inr (.inl hre))
        refine plain ?_
        cases hin : o.ins <;> rw [hin] at hre <;> first | (cases hre; done) | skip
        rename_i n ag cx
        rw [hin] at hI
        refine load_same (comp_load (P := P) (by rw [← hoc.ins]; exact hin)) hI fun b off hb => ?_
        refine keep_rd hqr tx inv.le (fun y q hxy hye hq hqe => ?_) e (by omega) (Nat.le_refl _)
        have := hcalm x y o q hx hq (hfree y q hxy hye hq hqe)
        have hb' : cx.ev (fs x) = .ptr b off := by
          rw [← CX.ev_congr (f := undo o.ps cos (fs x)) (fun p hp => hcg p (by unfold CO.ps; rw [hin]; exact List.mem_append_right _ hp))]; exact hb
        rw [htc, hin] at this
        simp only [touch, hb'] at this
        exact this
      by_cases hpk : o.ins.peeks = true
      · have hfree := inv.free hD hx hnl he (.inr (.inr hpk))
        have hno : ∀ (y : Nat) (q : CO), x ≤ y → y < e → cos[y]? = some q → q.ins.eff = false := by
          intro y q h1 h2 h3
          cases hqe : q.ins.eff with
          | false => rfl
          | true =>
            have := hfree y q h1 h2 h3 hqe
            rw [hD.pk x o hx hpk] at this
            cases this
        obtain ⟨X, hX⟩ := chain_push tx e (by omega) inv.le hno
        refine plain ?_
        rw [hX]
        exact (peek_more hpk hI).2
      · refine plain ((still_any ?_ hI).2 _)
        unfold CI.still
        simp [he, hmk, hre, hpk]
  · rw [wanted_rel hoc.guard (fun p q _ => hsee p) (hwant.trans hw0)]
    simp only [Bool.false_eq_true, if_false]
    refine ⟨fun g _ => fen_fn hB rd g, ?_⟩
    have hund : VR m F (vs x) undef := by rw [hv]; exact .tup [] #[] rfl (fun i v v' e => by simp at e)
    cases he : o.ins.eff with
    | true =>
      have hxe := hplace.1 he
      subst hxe
      exact after he hund (by rw [hH]; exact inv.hp) (by rw [hH]; exact Gs.refl ..)
    | false => exact stay he hund inv.hp (Gs0.refl ..) fun b p hb => .inl hb
end
end Go.EV

/- Drawn regions, whole. -/
namespace Go.EV
open Go.RowKit
variable {P : Program} {Fb : Fz}

def cnt : List Bool → Nat
  | [] => 0
  | b :: r => (if b then 0 else 1) + cnt r
theorem cnt_set : ∀ (l : List Bool) (i : Nat), l[i]? = some false → cnt (l.set i true) + 1 = cnt l
  | [], i, h => by simp at h
  | b :: r, 0, h => by simp at h; subst h; simp [cnt]; omega
  | b :: r, i + 1, h => by
    have := cnt_set r i (by simpa using h)
    simp only [List.set_cons_succ, cnt]
    omega
theorem cnt_zero : ∀ (l : List Bool), cnt l = 0 → ∀ (i : Nat) (b : Bool), l[i]? = some b → b = true
  | [], _, i, b, h => by simp at h
  | c :: r, h, i, b, hb => by
    unfold cnt at h
    cases i with
    | zero => simp at hb; subst hb; cases c <;> simp at h ⊢
    | succ i => exact cnt_zero r (by omega) i b (by simpa using hb)
theorem cnt_repl : ∀ n, cnt (List.replicate n false) = n
  | 0 => rfl
  | n + 1 => by rw [List.replicate_succ, cnt, cnt_repl n]; simp; omega

section
variable {E : Env} {rec : Task → Res} {ops : Array Oper} {cos : List CO} {fs : Nat → Fr} {Hs : Nat → Hp} {vs : Nat → AV} {tc : Nat → Tch × Tch}
variable {m0 : Mp} {F0 : Fz} {a0 : Act} {w0 : World}

theorem all_listed {ms : List Nat} {listed : Array Bool} (hms : ms = masks ops.toList []) (hl : listed.size = ops.size) (hlt : ∀ (i j : Nat), i < ops.size → pred ms i j = true → j < i) (hr : Region.ready .any ops listed = []) : ∀ i, i < ops.size → Lis listed i := by
  intro i
  induction i using Nat.strongRecOn with
  | _ i ih =>
    intro hi
    rcases lis_or (listed := listed) i with h | h
    · exact h
    · exfalso
      have hop : ops[i]? = some ops[i] := Array.getElem?_eq_getElem hi
      have : i ∈ Region.ready .any ops listed := by
        rw [mem_ready]
        refine ⟨?_, ops[i], hop, fun e he hb => ?_⟩
        · have h3 : listed[i]? = some listed[i] := Array.getElem?_eq_getElem (by omega)
          rw [Array.getD_eq_getD_getElem?, h3] at h ⊢
          simpa using h
        · have hp : pred ms i e.on = true := by
            unfold pred
            have hm := masks_at ops.toList [] i ops[i] (by simp)
            simp only [List.length_nil, Nat.zero_add] at hm
            rw [hms, List.getD_eq_getElem?_getD, hm, Option.getD_some]
            exact mask_bit_on _ _ (by simpa using he) hb
          have := hlt i e.on hi hp
          exact ih e.on this (by omega)
      rw [hr] at this
      cases this

theorem walk_any {B : Fence} (hB : Open B) (hrec : CallS B P Fb rec) (hqr : QuietR E rec) {rd : Option Nat} (hD : Dr P ops (masks ops.toList []) cos) (tx : ∀ (x : Nat) (o : CO), cos[x]? = some o → TxStep E rec fs Hs vs tc x o)
    (hcalm : ∀ (x y : Nat) (o q : CO), cos[x]? = some o → cos[y]? = some q → y ∈ o.fl → calm (tc x).1 (tc y).2 = true) (hf0 : FRel m0 F0 (fs 0) a0.tmps) (hlow : ∀ b p, m0 b = some p → b < (Hs 0).length) {Q : Exit → Act → World → Prop}
    (k : ∀ m' F' a' w', FRel m' F' (fs cos.length) a'.tmps → WR P Fb m' F' (Hs cos.length) w' → Gs m0 F0 (Hs 0) w0 m' F' (Hs cos.length) w' → a'.defers = a0.defers → a'.tmps.size = a0.tmps.size → Q .normal a' w') :
    ∀ (fuel : Nat) (listed : Array Bool) (a : Act) (w : World) (e : Nat) (m : Mp) (F : Fz), cnt listed.toList ≤ fuel → Inv P Fb ops cos fs Hs vs m0 F0 a0 w0 listed a w e m F → wpAnyIn (fen B rd) 0 P .any ops Q fuel listed a w := by
  have done : ∀ (listed : Array Bool) (a : Act) (w : World) (e : Nat) (m : Mp) (F : Fz), Inv P Fb ops cos fs Hs vs m0 F0 a0 w0 listed a w e m F → Region.ready .any ops listed = [] → Q .normal a w := by
    intro listed a w e m F inv hr
    have hall := all_listed rfl inv.lsz hD.lt hr
    have hix : ∀ (x : Nat) (o : CO), cos[x]? = some o → Lis listed o.ix := fun x o ho => by
      obtain ⟨op, hop, _⟩ := hD.at_ x o ho
      exact hall _ (Array.getElem?_eq_some_iff.1 hop).1
    have he : e = cos.length := by
      rcases Nat.lt_or_ge e cos.length with h | h
      · have ho : cos[e]? = some cos[e] := List.getElem?_eq_getElem h
        exact absurd (hix e _ ho) (inv.nxt _ ho).2
      · have := inv.le; omega
    subst he
    refine k m F a w (fun p v hv => ?_) inv.hp (inv.gs.up (inv.mono 0 _ (Nat.zero_le _) (Nat.le_refl _)) fun b p hn hb => ?_) inv.dfr inv.siz
    · obtain ⟨v0, h0⟩ := fs_dom tx _ (Nat.le_refl _) p v hv
      refine inv.fr p v0 h0 v ?_
      by_cases hw : ∃ (y : Nat) (q : CO), cos[y]? = some q ∧ q.dst = some p
      · obtain ⟨y, q, hq, hd⟩ := hw
        have hval := fs_some tx _ (Nat.le_refl _) p y q v0 (List.getElem?_eq_some_iff.1 hq).1 hq hd h0 (fun z qz h6 _ hz => (hD.pr y z q qz h6 hq hz).2.2.2 p hd)
        rw [hv] at hval
        exact .inl ⟨y, q, hq, hix y q hq, hd, Option.some.inj hval⟩
      · refine .inr ⟨fun y q hq hd _ => hw ⟨y, q, hq, hd⟩, ?_⟩
        rw [← fs_none tx _ (Nat.le_refl _) p fun y q _ hq hd => hw ⟨y, q, hq, hd⟩]; exact hv
    · rcases inv.dom b p hb with h | ⟨x, o, ho, _, h1, h2⟩
      · rw [h] at hn; cases hn
      · have hx := (List.getElem?_eq_some_iff.1 ho).1
        have := inv.mono 0 x (Nat.zero_le _) (by omega)
        have := inv.mono (x + 1) _ (by omega) (Nat.le_refl _)
        omega
  intro fuel
  induction fuel with
  | zero =>
    intro listed a w e m F hc inv
    have hr : Region.ready .any ops listed = [] := by
      cases hrr : Region.ready .any ops listed with
      | nil => rfl
      | cons i r =>
        exfalso
        obtain ⟨h1, h2, _⟩ := ready_spec inv.lsz (i := i) (by rw [hrr]; exact List.mem_cons_self ..)
        have hil : i < listed.size := by rw [inv.lsz]; exact h1
        have h3 : listed.toList[i]? = some listed[i] := by rw [Array.getElem?_toList]; exact Array.getElem?_eq_getElem (by rw [inv.lsz]; exact h1)
        have := cnt_zero _ (by omega) i _ h3
        apply h2
        unfold Lis
        rw [Array.getD_eq_getD_getElem?, Array.getElem?_eq_getElem (by rw [inv.lsz]; exact h1)]
        simpa using this
    exact ⟨hr, done listed a w e m F inv hr⟩
  | succ fuel ih =>
    intro listed a w e m F hc inv
    refine ⟨done listed a w e m F inv, fun i hi => ?_⟩
    obtain ⟨h1, h2, _⟩ := ready_spec inv.lsz hi
    have hil : i < listed.size := by rw [inv.lsz]; exact h1
    refine inv.step hB hrec hqr hD tx hcalm hf0 hlow hi fun a' w' e' m' F' inv' => ih _ a' w' e' m' F' ?_ inv'
    have h3 : listed[i]? = some listed[i] := Array.getElem?_eq_getElem (by rw [inv.lsz]; exact h1)
    have h4 : listed[i] = false := by
      cases h5 : listed[i] with
      | false => rfl
      | true => exact absurd (by unfold Lis; rw [Array.getD_eq_getD_getElem?, h3, h5]; rfl) h2
    have := cnt_set listed.toList i (by rw [Array.getElem?_toList, h3, h4])
    rw [Array.toList_setIfInBounds]
    omega
end

/-- **A DRAWN REGION.** -/
theorem walk_draw {B : Fence} (hB : Open B) {E : Env} {rec : Task → Res} (hrec : CallS B P Fb rec) (hqr : QuietR E rec) (hmix : P.follows .mixedOrders = true) {rd : Option Nat} {id : Nat} {ops : Array Oper} {cos : List CO} {m : Mp} {F : Fz} {f : Fr} {a : Act} {H : Hp} {w : World} {f' : Fr} {H' : Hp} {ts : List (Tch × Tch)} {Q : Exit → Act → World → Prop}
    (hc : compDraw P ops = some cos) (h : evDraw E rec cos f H [] = some (f', H', ts)) (hfl : flOk cos ts = true) (hf : FRel m F f a.tmps) (hw : WR P Fb m F H w)
    (k : ∀ m' F' a' w', FRel m' F' f' a'.tmps → WR P Fb m' F' H' w' → Gs m F H w m' F' H' w' → a'.defers = a.defers → a'.tmps.size = a.tmps.size → Q .normal a' w') : (Code.region id ops true).wpIn (fen B rd) 0 P Q a w := by
  have hD := compDraw_Dr hc
  obtain ⟨fs, Hs, vs, tc, rfl, rfl, rfl, rfl, _, _, h7, tx⟩ := evDraw_tx E rec cos f H [] f' H' ts h
  have hts : ∀ (x : Nat) (o : CO), cos[x]? = some o → ts[x]? = some (tc x) := fun x o e => by simpa using h7 x o e
  refine wpIn_region_any hmix ?_
  obtain ⟨w1, g1⟩ := hw.drew
  obtain ⟨e, e1, e2, e3, e4⟩ := next_eff cos cos.length 0 (by omega)
  obtain ⟨X, hX⟩ := chain_push tx e e1 e2 e3
  have hno : ∀ i, ¬ Lis (Array.replicate ops.size false) i := fun i h => by
    unfold Lis at h
    rw [Array.getD_eq_getD_getElem?, Array.getElem?_replicate] at h
    split at h <;> simp at h
  refine walk_any (w0 := w) (m0 := m) (F0 := F) (a0 := a) hB hrec hqr hD tx (fun x y o q ho hq hy => flOk_calm hts hfl ho hq hy) hf (fun b p hb => hw.lt hb) k ops.size _ a _ e m F (by rw [Array.toList_replicate, cnt_repl]; exact Nat.le_refl _)
    ⟨fun i o _ hl => absurd hl (hno i), by simp, e2, fun x o hx hlt he => ?_, fun o ho => ⟨e4 o ho, hno _⟩, fun p v0 h0 v hv => ?_, ?_, fun b p hb => .inl hb, fun x y hxy hy => ?_, ?_, rfl, rfl⟩
  · rw [e3 x o (Nat.zero_le _) hlt hx] at he; cases he
  · rcases hv with ⟨x, o, _, hl, _⟩ | ⟨_, hv⟩
    · exact absurd hl (hno _)
    · exact hf p v hv
  · refine w1.re fun b p hb => ?_
    rw [hX, List.getElem?_append_left (hw.lt hb)]
  · obtain ⟨Y, hY⟩ := chain_push tx y hxy (by omega) (fun z o h1 h2 h3 => e3 z o (Nat.zero_le _) (by omega) h3)
    rw [hY]; simp
  · refine g1.to0.re (fun b p hb => rfl) fun b p hb => ?_
    rw [hX, List.getElem?_append_left (hw.lt hb)]
end Go.EV
