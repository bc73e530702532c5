/- The relation between the evaluator's values and heaps and the machine's. -/
import Derived.Test.YtkcabichlinkmaaGreatDoorHM1
import Derived.Test.YtkcabichlinkmaaGreatDoorHMM
import Derived.RangeFuncLeaves
import Derived.RangeFuncNested
import Derived.ArgAppend
import Derived.OrdersIn
import Derived.Laws.Slices
import Derived.Deep.Draws
import Derived.Laws.StructEq
namespace Go.EV
open Go.RowKit

/-- Where a block lies: the machine's block, the first cell there, how many cells it has; how many cells there are there in all. -/
structure Pl where
  c : Nat
  d : Nat
  n : Nat
  z : Nat
abbrev Mp := Nat → Option Pl
abbrev Fz := Nat → Option Obj

def fcell (F : Fz) (c i : Nat) : Option Value := match F c with
  | some (.cells arr _ _) => arr[i]?
  | _ => none

inductive VR (m : Mp) (F : Fz) : AV → Value → Prop
  | und (v : Value) : VR m F .und v
  | err (t : TypeId) (v : Value) : VR m F .err (.iface t v)
  | bool (b : Bool) : VR m F (.bool b) (.bool b)
  | int (k : IntKind) (n : Int) : VR m F (.int k n) (.int k n)
  | str (s : List Nat) (b : ByteArray) (h : b.data.toList.map UInt8.toNat = s) : VR m F (.str s) (.string b)
  | nilp : VR m F .nilp (.pointer none)
  | ptr (b o : Nat) (p : Pl) (h : m b = some p) : VR m F (.ptr b o) (.pointer (some ⟨p.c, p.d + o, none⟩))
  | cptr (cs : List AV) (o c d : Nat) (g : Nat → Value) (hq : hfL cs = true) (h1 : ∀ i v, cs[i]? = some v → fcell F c (d + i) = some (g i)) (h2 : ∀ i v, cs[i]? = some v → VR m F v (g i)) :
      VR m F (.cptr cs o) (.pointer (some ⟨c, d + o, none⟩))
  | nils : VR m F .nils (.slice none 0 0)
  | emp (a : Addr) : VR m F .emp (.slice (some a) 0 0)
  | lst (es : Nat) (l : List (List AV)) (a : Addr) (cap : Nat) (g : Nat → Nat → Value) (hq : ∀ c, c ∈ l → hfL c = true) (hs : l ≠ [] → a.spot = none) (he : ∀ c, c ∈ l → c.length = es) (hc : l.length ≤ cap)
      (h1 : ∀ i c j v, l[i]? = some c → c[j]? = some v → fcell F a.block (a.off + (i * es + j)) = some (g i j)) (h2 : ∀ i c j v, l[i]? = some c → c[j]? = some v → VR m F v (g i j)) :
      VR m F (.lst l) (.slice (some a) l.length cap)
  | nlst : VR m F (.lst []) (.slice none 0 0)
  | sl (es b o len : Nat) (p : Pl) (a : Addr) (cap : Nat) (h : m b = some p) (hl : len ≤ cap) (ha : cap ≠ 0 → a = ⟨p.c, p.d + o, none⟩ ∧ p.d + o + cap * es ≤ p.z) :
      VR m F (.sl es b o len) (.slice (some a) len cap)
  | nilm : VR m F .nilm (.map none)
  | map (b : Nat) (p : Pl) (h : m b = some p) : VR m F (.map b) (.map (some p.c))
  | nilf : VR m F .nilf .nilFunc
  | fn (f : Nat) (caps : List AV) (vs : Array Value) (hn : caps.length = vs.size) (h : ∀ (i : Nat) (v : AV) (v' : Value), caps[i]? = some v → vs[i]? = some v' → VR m F v v') : VR m F (.fn f caps) (.func (.func f) #[] vs)
  | yld (b : Nat) (p : Pl) (h : m b = some p) : VR m F (.yld b) (.func (.yield p.c) #[] #[])
  | nili : VR m F .nili .nilIface
  | iface (t : TypeId) (v : AV) (v' : Value) (h : VR m F v v') : VR m F (.iface t v) (.iface t v')
  | agg (cs : List AV) (vs : Array Value) (hn : cs.length = vs.size) (h : ∀ (i : Nat) (v : AV) (v' : Value), cs[i]? = some v → vs[i]? = some v' → VR m F v v') : VR m F (.agg cs) (.agg vs)
  | tup (cs : List AV) (vs : Array Value) (hn : cs.length = vs.size) (h : ∀ (i : Nat) (v : AV) (v' : Value), cs[i]? = some v → vs[i]? = some v' → VR m F v v') : VR m F (.tup cs) (.tuple vs)

/-- Lists of values, and arrays. -/
def VRL (m : Mp) (F : Fz) (cs : List AV) (vs : Array Value) : Prop := cs.length = vs.size ∧ ∀ (i : Nat) (v : AV) (v' : Value), cs[i]? = some v → vs[i]? = some v' → VR m F v v'

def MpLe (m m' : Mp) : Prop := ∀ b p, m b = some p → m' b = some p
def FzLe (F F' : Fz) : Prop := ∀ c o, F c = some o → F' c = some o
theorem MpLe.refl (m : Mp) : MpLe m m := fun _ _ h => h
theorem FzLe.refl (F : Fz) : FzLe F F := fun _ _ h => h
theorem MpLe.trans {a b c : Mp} (h : MpLe a b) (k : MpLe b c) : MpLe a c := fun x p e => k x p (h x p e)
theorem FzLe.trans {a b c : Fz} (h : FzLe a b) (k : FzLe b c) : FzLe a c := fun x p e => k x p (h x p e)
theorem fcell_mono {F F' : Fz} (h : FzLe F F') {c i : Nat} {v : Value} (e : fcell F c i = some v) : fcell F' c i = some v := by
  unfold fcell at *
  cases hF : F c with
  | none => rw [hF] at e; cases e
  | some o => rw [hF] at e; rw [h c o hF]; exact e

theorem VR.mono {m m' : Mp} {F F' : Fz} (hm : MpLe m m') (hF : FzLe F F') {v : AV} {v' : Value} (h : VR m F v v') : VR m' F' v v' := by
  induction h with
  | und v => exact .und v
  | err t v => exact .err t v
  | bool b => exact .bool b
  | int k n => exact .int k n
  | str s b h => exact .str s b h
  | nilp => exact .nilp
  | ptr b o p h => exact .ptr b o p (hm _ _ h)
  | cptr cs o c d g hq h1 _ ih => exact .cptr cs o c d g hq (fun i v e => fcell_mono hF (h1 i v e)) ih
  | nils => exact .nils
  | emp a => exact .emp a
  | lst es l a cap g hq hs he hc h1 _ ih => exact .lst es l a cap g hq hs he hc (fun i c j v e k => fcell_mono hF (h1 i c j v e k)) ih
  | nlst => exact .nlst
  | sl es b o len p a cap h hl ha => exact .sl es b o len p a cap (hm _ _ h) hl ha
  | nilm => exact .nilm
  | map b p h => exact .map b p (hm _ _ h)
  | nilf => exact .nilf
  | fn f caps vs hn _ ih => exact .fn f caps vs hn ih
  | yld b p h => exact .yld b p (hm _ _ h)
  | nili => exact .nili
  | iface t v v' _ ih => exact .iface t v v' ih
  | agg cs vs hn _ ih => exact .agg cs vs hn ih
  | tup cs vs hn _ ih => exact .tup cs vs hn ih
theorem VRL.mono {m m' : Mp} {F F' : Fz} (hm : MpLe m m') (hF : FzLe F F') {v : List AV} {v' : Array Value} (h : VRL m F v v') : VRL m' F' v v' :=
  ⟨h.1, fun i a b x y => (h.2 i a b x y).mono hm hF⟩

/-! ## Frames -/
def FRel (m : Mp) (F : Fz) (f : Fr) (tmps : Array Value) : Prop := ∀ p v, f.get p = some v → ∃ v', tmps[p.n]? = some v' ∧ VR m F v v'
theorem FRel.mono {m m' : Mp} {F F' : Fz} (hm : MpLe m m') (hF : FzLe F F') {f : Fr} {t : Array Value} (h : FRel m F f t) : FRel m' F' f t :=
  fun p v e => let ⟨v', a, b⟩ := h p v e; ⟨v', a, b.mono hm hF⟩

theorem FRel.set {m : Mp} {F : Fz} {f : Fr} {t : Array Value} (h : FRel m F f t) (p : Pth) {v : AV} {v' : Value} (hv : VR m F v v') : FRel m F (f.set p v) (t.setIfInBounds p.n v') := by
  intro q u hq
  by_cases e : p = q
  · subst e
    cases hp : f.get p with
    | none => rw [Tr.get_set_none p f v hp] at hq; cases hq
    | some x =>
      rw [Tr.get_set_same p f v x hp] at hq
      obtain ⟨y, hy, _⟩ := h p x hp
      cases hq
      exact ⟨v', by rw [Array.getElem?_setIfInBounds_self]; simp [(Array.getElem?_eq_some_iff.1 hy).1], hv⟩
  · rw [Tr.get_set_ne p q f v e] at hq
    obtain ⟨y, hy, hr⟩ := h q u hq
    exact ⟨y, by rw [Array.getElem?_setIfInBounds_ne (fun k => e (Pth.n_inj p q k))]; exact hy, hr⟩
theorem FRel.set_und {m : Mp} {F : Fz} {f : Fr} {t : Array Value} (h : FRel m F f t) (p : Pth) : FRel m F (f.set p .und) t := by
  intro q u hq
  by_cases e : p = q
  · subst e
    cases hp : f.get p with
    | none => rw [Tr.get_set_none p f _ hp] at hq; cases hq
    | some x =>
      rw [Tr.get_set_same p f _ x hp] at hq
      obtain ⟨y, hy, _⟩ := h p x hp
      cases hq
      exact ⟨y, hy, .und _⟩
  · rw [Tr.get_set_ne p q f _ e] at hq; exact h q u hq

/-! ## Heaps -/
def mutB : Blk → Prop
  | .cells st _ _ => st ≠ 0
  | .dead => False
  | .map _ => True
  | .loop _ _ _ _ _ _ => True
def mutAt (H : Hp) (b : Nat) : Prop := ∃ k, H[b]? = some k ∧ mutB k
def stR : Nat → LoopState → Prop
  | 0, s => s = .ready
  | 1, s => s = .busy
  | 2, s => s = .done
  | _, _ => False
def exR : Ex → Option Code → Prop
  | .norm, c => c = none
  | .ret, c => c = some .ret
  | .exit i, c => c = some (.exit i)

def BR (P : Program) (m : Mp) (F : Fz) (w : World) : Blk → Pl → Prop
  | .cells st ty cs, p => p.n = cs.length ∧ ∃ arr lo hi, (st = 0 → F p.c = some (.cells arr ty (lo, hi))) ∧ (st ≠ 0 → w.heap[p.c]? = some (.cells arr ty (lo, hi))) ∧ p.d + cs.length ≤ arr.size ∧ arr.size = p.z ∧
      (∀ i v, cs[i]? = some v → ∃ v', arr[p.d + i]? = some v' ∧ VR m F v v') ∧ (st = 1 → lo = hi) ∧ (st ≠ 0 → lo = hi ∨ hi ≤ p.d + cs.length) ∧ (spec P ty = true → p.d = 0 ∧ p.z = cs.length)
  | .dead, _ => True
  | .map es, p => ∃ ents k, w.heap[p.c]? = some (.map ents k) ∧ es.length = ents.size ∧ ∀ (i : Nat) (k v : AV), es[i]? = some (k, v) → ∃ e : MapEntry, ents[i]? = some e ∧ VR m F k e.key ∧ VR m F v e.val
  | .loop st pend f ps a b, p => ∃ r, w.heap[p.c]? = some (.loop r) ∧ stR st r.state ∧ (st ≠ 1 → exR pend r.pending) ∧ FRel m F f r.tmps ∧ compPths r.params.toList = some ps ∧ compC P r.assign = some a ∧ compC P r.body = some b

structure WR (P : Program) (Fb : Fz) (m : Mp) (F : Fz) (H : Hp) (w : World) : Prop where
  bs : FzLe Fb F
  fz : ∀ c o, F c = some o → w.heap[c]? = some o
  blk : ∀ b p, m b = some p → ∃ k, H[b]? = some k ∧ BR P m F w k p
  inj : ∀ b b' p p', m b = some p → m b' = some p' → mutAt H b → mutAt H b' → p.c = p'.c → b = b'
  fre : ∀ b p, m b = some p → mutAt H b → F p.c = none

/-- A loop's record keeps what is fixed. -/
def SameL (r r' : Loop) : Prop := r'.tmps = r.tmps ∧ r'.params = r.params ∧ r'.assign = r.assign ∧ r'.body = r.body
theorem SameL.refl (r : Loop) : SameL r r := ⟨rfl, rfl, rfl, rfl⟩
theorem SameL.trans {a b c : Loop} (h : SameL a b) (k : SameL b c) : SameL a c := ⟨k.1.trans h.1, k.2.1.trans h.2.1, k.2.2.1.trans h.2.2.1, k.2.2.2.trans h.2.2.2⟩
/-- What a piece of a run does. -/
structure Gs (m : Mp) (F : Fz) (H : Hp) (w : World) (m' : Mp) (F' : Fz) (H' : Hp) (w' : World) : Prop where
  ml : MpLe m m'
  fl : FzLe F F'
  nw : ∀ b p, m' b = some p → m b = none → w.heap.size ≤ p.c ∨ ∃ b0 p0, m b0 = some p0 ∧ p0.c = p.c ∧ mutAt H b0
  nf : ∀ c o, F' c = some o → F c = none → w.heap.size ≤ c ∨ ∃ b p, m b = some p ∧ p.c = c ∧ mutAt H b
  mu : ∀ b p, m b = some p → mutAt H' b → mutAt H b
  fr : ∀ c, c < w.heap.size → (∀ b p, m b = some p → p.c = c → ¬ mutAt H b) → w'.heap[c]? = w.heap[c]?
  sz : w.heap.size ≤ w'.heap.size
  os : w'.os = w.os
  tape : w'.tape = w.tape
  out : w'.output = w.output
  hl : H.length ≤ H'.length
  nm : ∀ b p, m b = none → m' b = some p → H.length ≤ b ∧ b < H'.length
  lp : ∀ (c : Nat) (r : Loop), w.heap[c]? = some (Obj.loop r) → ∃ r', w'.heap[c]? = some (Obj.loop r') ∧ SameL r r'

theorem Gs.refl (m : Mp) (F : Fz) (H : Hp) (w : World) : Gs m F H w m F H w :=
  ⟨MpLe.refl _, FzLe.refl _, fun b p h k => (by rw [h] at k; cases k), fun c o h k => (by rw [h] at k; cases k), fun _ _ _ h => h, fun _ _ _ => rfl, Nat.le_refl _, rfl, rfl, rfl, Nat.le_refl _, fun b p hn hp => (by rw [hp] at hn; cases hn), fun c r h => ⟨r, h, SameL.refl r⟩⟩
theorem Gs.drawn {m : Mp} {F : Fz} {H : Hp} {w : World} (n : Nat) : Gs m F H w m F H { w with drawn := n } :=
  ⟨MpLe.refl _, FzLe.refl _, fun b p h k => (by rw [h] at k; cases k), fun c o h k => (by rw [h] at k; cases k), fun _ _ _ h => h, fun _ _ _ => rfl, Nat.le_refl _, rfl, rfl, rfl, Nat.le_refl _, fun b p hn hp => (by rw [hp] at hn; cases hn), fun c r h => ⟨r, h, SameL.refl r⟩⟩


theorem Gs.trans {m m' m2 : Mp} {F F' F2 : Fz} {H H' H2 : Hp} {w w' w2 : World} (g : Gs m F H w m' F' H' w') (k : Gs m' F' H' w' m2 F2 H2 w2) : Gs m F H w m2 F2 H2 w2 where
  ml := g.ml.trans k.ml
  fl := g.fl.trans k.fl
  nw b p h hn := by
    cases e : m' b with
    | none =>
      rcases k.nw b p h e with h1 | ⟨b0, p0, h1, h2, h3⟩
      · exact .inl (Nat.le_trans g.sz h1)
      · cases e2 : m b0 with
        | none => rw [← h2]; exact g.nw b0 p0 h1 e2
        | some q => have h4 := g.ml b0 q e2; rw [h1] at h4; cases h4; exact .inr ⟨b0, p0, e2, h2, g.mu b0 p0 e2 h3⟩
    | some q => have h1 := k.ml b q e; rw [h] at h1; cases h1; exact g.nw b p e hn
  nf c o h hn := by
    cases e : F' c with
    | none =>
      rcases k.nf c o h e with h1 | ⟨b, p, h1, h2, h3⟩
      · exact .inl (Nat.le_trans g.sz h1)
      · cases e2 : m b with
        | none => rw [← h2]; exact g.nw b p h1 e2
        | some q => have h4 := g.ml b q e2; rw [h1] at h4; cases h4; exact .inr ⟨b, p, e2, h2, g.mu b p e2 h3⟩
    | some q => have h1 := k.fl c q e; rw [h] at h1; cases h1; exact g.nf c o e hn
  mu b p h hm := g.mu b p h (k.mu b p (g.ml b p h) hm)
  fr c hc hn := by
    rw [k.fr c (Nat.lt_of_lt_of_le hc g.sz) (fun b p hb hp hm => ?_)]
    · exact g.fr c hc hn
    · cases e2 : m b with
      | none =>
        rcases g.nw b p hb e2 with h1 | ⟨b0, p0, h1, h2, h3⟩
        · omega
        · exact hn b0 p0 h1 (h2.trans hp) h3
      | some q => have h4 := g.ml b q e2; rw [hb] at h4; cases h4; exact hn b p e2 hp (g.mu b p e2 hm)
  sz := Nat.le_trans g.sz k.sz
  os := k.os.trans g.os
  tape := k.tape.trans g.tape
  out := k.out.trans g.out
  hl := Nat.le_trans g.hl k.hl
  nm b p hn hp := by
    cases e : m' b with
    | none => have h1 := k.nm b p e hp; exact ⟨Nat.le_trans g.hl h1.1, h1.2⟩
    | some q => have h1 := g.nm b q hn e; exact ⟨h1.1, Nat.lt_of_lt_of_le h1.2 k.hl⟩
  lp c r h := by obtain ⟨r', h', s⟩ := g.lp c r h; obtain ⟨r2, h2, s2⟩ := k.lp c r' h'; exact ⟨r2, h2, s.trans s2⟩

end Go.EV

/- Each single operation: what the evaluator answers, the machine answers. -/
namespace Go.EV
open Go.RowKit
variable {P : Program} {Fb : Fz}

/-! ## Runs of small parts -/
theorem ok_inj {α : Type} {a b : α} {w v : World} (h : a = b) (k : w = v) : Result.ok a w = Result.ok b v := by rw [h, k]
theorem run_typeInfo {t : TypeId} {i : TypeInfo} (h : P.info? t = some i) (w : World) : (typeInfo t).run P w = .ok i w := by
  simp [typeInfo, program, h, Sem.run_bind, Sem.run, Result.andThen]
theorem run_size {t : TypeId} {n : Nat} (h : sizeOf? P t = some n) (w : World) : (sizeOf t).run P w = .ok n w := by
  unfold sizeOf? at h
  cases hi : P.info? t with
  | none => rw [hi] at h; cases h
  | some i => rw [hi] at h; cases h; simp [sizeOf, run_typeInfo hi, Result.andThen]
theorem run_agg? {t : TypeId} {b : Bool} (h : isAgg? P t = some b) (w : World) : (isAgg t).run P w = .ok b w := by
  unfold isAgg? at h
  cases hd : P.underlying t with
  | none => rw [hd] at h; cases h
  | some d => rw [hd] at h; cases h; cases d <;> simp [isAgg, Sem.run_bind, run_underlying hd, Result.andThen]
theorem run_zero {t : TypeId} {z : Value} (h : (P.info? t).bind (·.zero) = some z) (w : World) : (zeroValue t).run P w = .ok z w := by
  cases hi : P.info? t with
  | none => rw [hi] at h; cases h
  | some i =>
    rw [hi] at h
    simp only [Option.bind_some] at h
    simp [zeroValue, Sem.run_bind, run_typeInfo hi, Result.andThen, h]

/-! ## Constants and operands -/
theorem ofVal1_rel {m : Mp} {F : Fz} {v : Value} {a : AV} (h : ofVal1 v = some a) : VR m F a v := by
  unfold ofVal1 at h
  split at h <;> first | (cases h; constructor) | cases h | skip
  all_goals first | rfl | skip
theorem avL_rel {m : Mp} {F : Fz} : ∀ (l : List Value) (cs : List AV), avL ofVal1 l = some cs → cs.length = l.length ∧ ∀ (i : Nat) (v : AV) (v' : Value), cs[i]? = some v → l[i]? = some v' → VR m F v v'
  | [], cs, h => by
    simp [avL] at h; subst h; exact ⟨rfl, fun i v v' a => by simp at a⟩
  | x :: r, cs, h => by
    unfold avL at h
    cases hx : ofVal1 x with
    | none => rw [hx] at h; cases h
    | some a =>
      rw [hx] at h
      cases hr : avL ofVal1 r with
      | none => rw [hr] at h; cases h
      | some as =>
        rw [hr] at h
        cases h
        obtain ⟨h1, h2⟩ := avL_rel r as hr
        refine ⟨by simp [h1], fun i v v' a b => ?_⟩
        cases i with
        | zero => simp at a b; subst a; subst b; exact ofVal1_rel hx
        | succ i => simp at a b; exact h2 i v v' a b
theorem avL_VRL {m : Mp} {F : Fz} {l : Array Value} {cs : List AV} (h : avL ofVal1 l.toList = some cs) : VRL m F cs l := by
  obtain ⟨a, b⟩ := avL_rel (m := m) (F := F) l.toList cs h
  exact ⟨by simpa using a, fun i v v' x y => b i v v' x (by simpa using y)⟩
theorem ofVal_rel {m : Mp} {F : Fz} {v : Value} {a : AV} (h : ofVal v = some a) : VR m F a v := by
  unfold ofVal at h
  split at h
  · rename_i cs
    cases hr : avL ofVal1 cs.toList with
    | none => rw [hr] at h; cases h
    | some as => rw [hr] at h; cases h; have := avL_VRL (m := m) (F := F) hr; exact .agg as cs this.1 this.2
  · exact ofVal1_rel h

theorem toPth_n {i : Nat} {p : Pth} (h : toPth i = some p) : p.n = i := by
  unfold toPth at h
  simp only at h
  split at h
  · cases h; assumption
  · cases h
theorem compX_rel {m : Mp} {F : Fz} {f : Fr} {a : Act} (hf : FRel m F f a.tmps) {x : Operand} {cx : CX} (h : compX x = some cx) : VR m F (cx.ev f) (a.eval x) := by
  cases x with
  | tmp t =>
    simp only [compX] at h
    cases hp : toPth t with
    | none => rw [hp] at h; cases h
    | some p =>
      rw [hp] at h; cases h
      have hn := toPth_n hp
      simp only [CX.ev, Act.eval]
      cases hg : f.get p with
      | none => exact .und _
      | some v =>
        obtain ⟨v', h1, h2⟩ := hf p v hg
        rw [hn] at h1
        simp only [Array.getD_eq_getD_getElem?, h1, Option.getD_some]
        exact h2
  | const v =>
    simp only [compX] at h
    cases hp : ofVal v with
    | none => rw [hp] at h; cases h
    | some p => rw [hp] at h; cases h; exact ofVal_rel hp
  | global g => cases h
  | func g => cases h; exact .fn g [] #[] rfl (fun i v v' a => by simp at a)
theorem compXs_rel {m : Mp} {F : Fz} {f : Fr} {a : Act} (hf : FRel m F f a.tmps) : ∀ (xs : List Operand) (cs : List CX), compXs xs = some cs →
    cs.length = xs.length ∧ ∀ (i : Nat) (v : AV) (v' : Value), (cs.map (·.ev f))[i]? = some v → (xs.map a.eval)[i]? = some v' → VR m F v v'
  | [], cs, h => by simp [compXs] at h; subst h; exact ⟨rfl, fun i v v' a => by simp at a⟩
  | x :: r, cs, h => by
    unfold compXs at h
    cases hx : compX x with
    | none => rw [hx] at h; cases h
    | some c =>
      rw [hx] at h
      cases hr : compXs r with
      | none => rw [hr] at h; cases h
      | some ds =>
        rw [hr] at h
        cases h
        obtain ⟨h1, h2⟩ := compXs_rel hf r ds hr
        refine ⟨by simp [h1], fun i v v' a b => ?_⟩
        cases i with
        | zero => simp at a b; subst a; subst b; exact compX_rel hf hx
        | succ i => simp at a b; exact h2 i v v' (by simpa using a) (by simpa using b)

/-! ## The form of what is shown -/
def NxR (m : Mp) (F : Fz) (v : AV) (nx : Next) : Prop := (∃ v', nx = .value v' ∧ VR m F v v') ∨ (nx = .skip ∧ v = .tup [])
def SimO (P : Program) (Fb : Fz) (o : Oper) (i : CI) : Prop :=
  ∀ (m : Mp) (F : Fz) (f : Fr) (a : Act) (H : Hp) (w : World) (v : AV) (H' : Hp), FRel m F f a.tmps → WR P Fb m F H w → evI f H i = some (v, H') →
    ∃ m' F' nx w', (execOp a.eval o).run P w = .ok nx w' ∧ NxR m' F' v nx ∧ WR P Fb m' F' H' w' ∧ Gs m F H w m' F' H' w'
/-- What neither looks into the heap nor turns it. -/
theorem sim_pure {m : Mp} {F : Fz} {H : Hp} {w : World} {v : AV} {v' : Value} {s : Sem Value} (hw : WR P Fb m F H w) (hr : s.run P w = .ok v' w) (hv : VR m F v v') :
    ∃ m' F' nx w', (do pure (Next.value (← s)) : Sem Next).run P w = .ok nx w' ∧ NxR m' F' v nx ∧ WR P Fb m' F' H w' ∧ Gs m F H w m' F' H w' :=
  ⟨m, F, .value v', w, by simp [hr, Result.andThen], .inl ⟨v', rfl, hv⟩, hw, Gs.refl ..⟩
theorem map_some {α β : Type} {o : Option α} {f : α → β} {b : β} (h : o.map f = some b) : ∃ a, o = some a ∧ f a = b := by
  cases o with
  | none => cases h
  | some a => exact ⟨a, rfl, by simpa using h⟩

theorem sim_mv {o : Oper} {x : Operand} {cx : CX} (ho : o.op = .move x ∨ o.op = .assign x) (hx : compX x = some cx) : SimO P Fb o (.mv cx) := by
  intro m F f a H w v H' hf hw h
  simp only [evI, Option.some.injEq, Prod.mk.injEq] at h
  obtain ⟨rfl, rfl⟩ := h
  refine ⟨m, F, .value (a.eval x), w, ?_, .inl ⟨_, rfl, compX_rel hf hx⟩, hw, Gs.refl ..⟩
  rcases ho with ho | ho <;> simp [execOp, ho]
theorem sim_pick {o : Oper} {x y z : Operand} {cx cy cz : CX} (ho : o.op = .pick x y z) (hx : compX x = some cx) (hy : compX y = some cy) (hz : compX z = some cz) : SimO P Fb o (.pick cx cy cz) := by
  intro m F f a H w v H' hf hw h
  have h1 := compX_rel hf hx
  have h2 := compX_rel hf hy
  have h3 := compX_rel hf hz
  simp only [evI] at h
  cases hc : cx.ev f with
  | bool t =>
    rw [hc] at h h1
    simp only [Option.some.injEq, Prod.mk.injEq] at h
    obtain ⟨rfl, rfl⟩ := h
    generalize hax : a.eval x = vx at h1
    cases h1
    refine ⟨m, F, .value (if t then a.eval y else a.eval z), w, ?_, .inl ⟨_, rfl, ?_⟩, hw, Gs.refl ..⟩
    · cases t <;> simp [execOp, ho, hax, asBool]
    · cases t <;> assumption
  | _ => rw [hc] at h; cases h

end Go.EV

/- How the relation fares when a block is made, or turned. -/
namespace Go.EV
open Go.RowKit
variable {P : Program} {Fb : Fz}

def upd (m : Mp) (b : Nat) (p : Pl) : Mp := fun x => if x = b then some p else m x
theorem upd_same (m : Mp) (b : Nat) (p : Pl) : upd m b p b = some p := by simp [upd]
theorem upd_le {m : Mp} {b : Nat} (p : Pl) (h : m b = none) : MpLe m (upd m b p) := fun x q hq => by
  unfold upd
  split
  · rename_i e; subst e; rw [h] at hq; cases hq
  · exact hq
theorem upd_cases {m : Mp} {b x : Nat} {p q : Pl} (h : upd m b p x = some q) : (x = b ∧ q = p) ∨ (x ≠ b ∧ m x = some q) := by
  unfold upd at h
  split at h
  · rename_i e; cases h; exact .inl ⟨e, rfl⟩
  · rename_i e; exact .inr ⟨e, h⟩

theorem BR.mono {m m' : Mp} {F F' : Fz} {w w' : World} (hm : MpLe m m') (hF : FzLe F F') {k : Blk} {p : Pl} (hc : mutB k → w'.heap[p.c]? = w.heap[p.c]?) (h : BR P m F w k p) : BR P m' F' w' k p := by
  cases k with
  | cells st ty cs =>
    obtain ⟨hn, arr, lo, hi, h0, h1, h2, h3, h4, h5, h6, h7⟩ := h
    refine ⟨hn, arr, lo, hi, fun e => hF _ _ (h0 e), fun e => (hc e).trans (h1 e), h2, h3, fun i v e => ?_, h5, h6, h7⟩
    obtain ⟨v', a, b⟩ := h4 i v e
    exact ⟨v', a, b.mono hm hF⟩
  | dead => trivial
  | map es =>
    obtain ⟨ents, c, h1, h2, h3⟩ := h
    refine ⟨ents, c, (hc trivial).trans h1, h2, fun i k v e => ?_⟩
    obtain ⟨x, a, b, d⟩ := h3 i k v e
    exact ⟨x, a, b.mono hm hF, d.mono hm hF⟩
  | loop st pend f ps a b =>
    obtain ⟨r, h1, h2, h3, h4, h5⟩ := h
    exact ⟨r, (hc trivial).trans h1, h2, h3, h4.mono hm hF, h5⟩

theorem WR.lt {m : Mp} {F : Fz} {H : Hp} {w : World} (hw : WR P Fb m F H w) {b : Nat} {p : Pl} (h : m b = some p) : b < H.length := by
  obtain ⟨k, hk, _⟩ := hw.blk b p h
  exact (List.getElem?_eq_some_iff.1 hk).1
theorem WR.free {m : Mp} {F : Fz} {H : Hp} {w : World} (hw : WR P Fb m F H w) : m H.length = none := by
  cases h : m H.length with
  | none => rfl
  | some p => have := hw.lt h; omega
theorem WR.Flt {m : Mp} {F : Fz} {H : Hp} {w : World} (hw : WR P Fb m F H w) {c : Nat} {o : Obj} (h : F c = some o) : c < w.heap.size :=
  (Array.getElem?_eq_some_iff.1 (hw.fz c o h)).1
theorem WR.mutlt {m : Mp} {F : Fz} {H : Hp} {w : World} (hw : WR P Fb m F H w) {b : Nat} {p : Pl} (h : m b = some p) (hm : mutAt H b) : p.c < w.heap.size := by
  obtain ⟨k, hk, hb⟩ := hw.blk b p h
  obtain ⟨k', hk', hmk⟩ := hm
  rw [hk] at hk'; cases hk'
  cases k with
  | cells st ty cs => obtain ⟨_, arr, lo, hi, _, h1, _⟩ := hb; exact (Array.getElem?_eq_some_iff.1 (h1 hmk)).1
  | dead => exact hmk.elim
  | map es => obtain ⟨ents, c, h1, _⟩ := hb; exact (Array.getElem?_eq_some_iff.1 h1).1
  | loop st pend f ps a b => obtain ⟨r, h1, _⟩ := hb; exact (Array.getElem?_eq_some_iff.1 h1).1
theorem heap_alloc_lt (w : World) (o : Obj) {c : Nat} (h : c < w.heap.size) : (w.alloc o).heap[c]? = w.heap[c]? := by
  show (w.heap.push o)[c]? = _
  rw [Array.getElem?_push, if_neg (by omega)]
theorem heap_alloc_at (w : World) (o : Obj) : (w.alloc o).heap[w.heap.size]? = some o := by
  show (w.heap.push o)[_]? = _
  simp
theorem size_alloc' (w : World) (o : Obj) : (w.alloc o).heap.size = w.heap.size + 1 := by
  show (w.heap.push o).size = _
  simp
theorem mutAt_push {H : Hp} {k : Blk} {b : Nat} (h : mutAt (H ++ [k]) b) : (b = H.length ∧ mutB k) ∨ mutAt H b := by
  obtain ⟨k', hk, hm⟩ := h
  rcases Nat.lt_trichotomy b H.length with h1 | h1 | h1
  · rw [List.getElem?_append_left h1] at hk; exact .inr ⟨k', hk, hm⟩
  · subst h1; rw [List.getElem?_append_right (Nat.le_refl _)] at hk; simp at hk; subst hk; exact .inl ⟨rfl, hm⟩
  · rw [List.getElem?_eq_none (by simp; omega)] at hk; cases hk

/-- A new block. -/
theorem WR.push {m : Mp} {F : Fz} {H : Hp} {w : World} (hw : WR P Fb m F H w) (k : Blk) (o : Obj) (p : Pl) (hp : p.c = w.heap.size) (hb : BR P (upd m H.length p) F (w.alloc o) k p) :
    WR P Fb (upd m H.length p) F (H ++ [k]) (w.alloc o) ∧ Gs m F H w (upd m H.length p) F (H ++ [k]) (w.alloc o) := by
  have hle := upd_le p hw.free
  refine ⟨⟨hw.bs, fun c x h => (heap_alloc_lt w o (hw.Flt h)).trans (hw.fz c x h), fun b q h => ?_, fun b b' q q' h h' hm hm' e => ?_, fun b q h hm => ?_⟩,
    ⟨hle, FzLe.refl _, fun b q h hn => ?_, fun c x h hn => (by rw [h] at hn; cases hn), fun b q h hm => ?_, fun c hc _ => heap_alloc_lt w o hc, by rw [size_alloc']; omega, rfl, rfl, rfl, by simp, fun b q hn h => ?_, fun c r h => ⟨r, (heap_alloc_lt w o (Array.getElem?_eq_some_iff.1 h).1).trans h, SameL.refl r⟩⟩⟩
  · rcases upd_cases h with ⟨rfl, rfl⟩ | ⟨hne, h⟩
    · exact ⟨k, by simp, hb⟩
    · obtain ⟨k', hk', hbr⟩ := hw.blk b q h
      exact ⟨k', by rw [List.getElem?_append_left (hw.lt h)]; exact hk', BR.mono hle (FzLe.refl _) (fun hm => heap_alloc_lt w o (hw.mutlt h ⟨k', hk', hm⟩)) hbr⟩
  · rcases upd_cases h with ⟨e1, e2⟩ | ⟨hne, k1⟩
    · rcases upd_cases h' with ⟨e3, e4⟩ | ⟨hne', k2⟩
      · rw [e1, e3]
      · rcases mutAt_push hm' with ⟨e3, _⟩ | hm2
        · exact absurd e3 hne'
        · have := hw.mutlt k2 hm2; rw [e2] at e; omega
    · rcases mutAt_push hm with ⟨e3, _⟩ | hm1
      · exact absurd e3 hne
      rcases upd_cases h' with ⟨e3, e4⟩ | ⟨hne', k2⟩
      · have := hw.mutlt k1 hm1; rw [e4] at e; omega
      · rcases mutAt_push hm' with ⟨e3, _⟩ | hm2
        · exact absurd e3 hne'
        exact hw.inj b b' q q' k1 k2 hm1 hm2 e
  · rcases upd_cases h with ⟨rfl, rfl⟩ | ⟨hne, h⟩
    · cases hF : F q.c with
      | none => rfl
      | some x => have := hw.Flt hF; omega
    · rcases mutAt_push hm with ⟨e1, _⟩ | hm
      · exact absurd e1 hne
      exact hw.fre b q h hm
  · rcases upd_cases h with ⟨rfl, rfl⟩ | ⟨hne, h⟩
    · exact .inl (by omega)
    · rw [h] at hn; cases hn
  · rcases mutAt_push hm with ⟨e1, _⟩ | hm
    · subst e1; rw [hw.free] at h; cases h
    · exact hm
  · rcases upd_cases h with ⟨rfl, rfl⟩ | ⟨hne, h⟩
    · exact ⟨Nat.le_refl _, by simp⟩
    · rw [h] at hn; cases hn

/-- A new block of cells of the call's own. -/
theorem WR.pushCells {m : Mp} {F : Fz} {H : Hp} {w : World} (hw : WR P Fb m F H w) (ty : Nat) (cs : List AV) (arr : Array Value) (hv : ∀ (i : Nat) (v : AV), cs[i]? = some v → ∃ v', arr[i]? = some v' ∧ VR m F v v') (hl : cs.length = arr.size) :
    WR P Fb (upd m H.length ⟨w.heap.size, 0, cs.length, arr.size⟩) F (H ++ [.cells 1 ty cs]) (w.alloc (.cells arr ty)) ∧
      Gs m F H w (upd m H.length ⟨w.heap.size, 0, cs.length, arr.size⟩) F (H ++ [.cells 1 ty cs]) (w.alloc (.cells arr ty)) := by
  refine hw.push _ _ _ rfl ⟨rfl, arr, 0, 0, (fun h => (by cases h)), fun _ => heap_alloc_at w _, by simpa using Nat.le_of_eq hl, rfl, fun i v e => ?_, fun _ => rfl, fun _ => .inl rfl, fun _ => ⟨rfl, hl.symm⟩⟩
  obtain ⟨v', a, b⟩ := hv i v e
  exact ⟨v', by simpa using a, b.mono (upd_le _ hw.free) (FzLe.refl _)⟩

theorem mutAt_set {H : Hp} {k : Blk} {b x : Nat} (h : mutAt (H.set b k) x) (hb : mutAt H b) : mutAt H x := by
  obtain ⟨k', hk, hm⟩ := h
  by_cases e : b = x
  · exact e ▸ hb
  · rw [List.getElem?_set_ne e] at hk; exact ⟨k', hk, hm⟩
theorem putObj_ne (w : World) (r : Nat) (o : Obj) {c : Nat} (h : c ≠ r) : (w.putObj r o).heap[c]? = w.heap[c]? := World.putObj_heap_other h

/-- An own block is turned, there and here. -/
theorem WR.turn {m : Mp} {F : Fz} {H : Hp} {w : World} (hw : WR P Fb m F H w) {b : Nat} {p : Pl} (h : m b = some p) (hm : mutAt H b) (k : Blk) (o : Obj) (hb : BR P m F (w.putObj p.c o) k p) (hlp : ∀ r, w.heap[p.c]? = some (.loop r) → ∃ r', o = .loop r' ∧ SameL r r') :
    WR P Fb m F (H.set b k) (w.putObj p.c o) ∧ Gs m F H w m F (H.set b k) (w.putObj p.c o) := by
  have hF := hw.fre b p h hm
  refine ⟨⟨hw.bs, fun c x e => (putObj_ne w p.c o (fun e2 => by subst e2; rw [hF] at e; cases e)).trans (hw.fz c x e), fun b' q h' => ?_, fun b1 b2 q q' h1 h2 m1 m2 e => hw.inj b1 b2 q q' h1 h2 (mutAt_set m1 hm) (mutAt_set m2 hm) e,
      fun b' q h' m' => hw.fre b' q h' (mutAt_set m' hm)⟩,
    ⟨MpLe.refl _, FzLe.refl _, fun b q h hn => (by rw [h] at hn; cases hn), fun c x h hn => (by rw [h] at hn; cases hn), fun b' q _ m' => mutAt_set m' hm, fun c hc hn => putObj_ne w p.c o (fun e => hn b p h e.symm hm), by simp [World.putObj], rfl, rfl, rfl, by simp, fun b q hn h => (by rw [h] at hn; cases hn), fun c r h => ?_⟩⟩
  rotate_left
  · by_cases e : c = p.c
    · subst e
      obtain ⟨r', rfl, s⟩ := hlp r h
      exact ⟨r', World.putObj_heap_same (Array.getElem?_eq_some_iff.1 h).1, s⟩
    · exact ⟨r, (putObj_ne w p.c o e).trans h, SameL.refl r⟩
  by_cases e : b' = b
  · subst e
    rw [h] at h'; cases h'
    exact ⟨k, by rw [List.getElem?_set_self (hw.lt h)], hb⟩
  · obtain ⟨k', hk', hbr⟩ := hw.blk b' q h'
    refine ⟨k', by rw [List.getElem?_set_ne (fun x => e x.symm)]; exact hk', BR.mono (MpLe.refl _) (FzLe.refl _) (fun hmk => putObj_ne w p.c o (fun ec => e ?_)) hbr⟩
    exact hw.inj b' b q p h' h ⟨k', hk', hmk⟩ hm ec

theorem VRL.cell {m : Mp} {F : Fz} {cs : List AV} {vs : Array Value} (h : VRL m F cs vs) : ∀ (i : Nat) (v : AV), cs[i]? = some v → ∃ v', vs[i]? = some v' ∧ VR m F v v' := fun i v e => by
  have hi := (List.getElem?_eq_some_iff.1 e).1
  have hs : i < vs.size := by rw [← h.1]; exact hi
  exact ⟨vs[i], Array.getElem?_eq_getElem hs, h.2 i v _ e (Array.getElem?_eq_getElem hs)⟩

/-! ## A variable is made -/
theorem run_newRow' (ty : Nat) (arr : Array Value) (w : World) : (newRow ty arr).run P w = .ok ⟨w.heap.size, 0, none⟩ (w.alloc (.cells arr ty)) := by
  simp [newRow, Result.andThen]
theorem zero?_rel {t : TypeId} {z : List AV} (h : zero? P t = some z) : ∃ v : Value, (P.info? t).bind (·.zero) = some v ∧ avL ofVal1 v.cells.toList = some z := by
  unfold zero? at h
  split at h
  · rename_i v hv; exact ⟨v, hv, h⟩
  · cases h
theorem sim_alloc {o : Oper} {t : TypeId} {z : List AV} (ho : o.op = .alloc t) (hz : zero? P t = some z) : SimO P Fb o (.alloc t z) := by
  intro m F f a H w v H' hf hw h
  simp only [evI, Option.some.injEq, Prod.mk.injEq] at h
  obtain ⟨rfl, rfl⟩ := h
  obtain ⟨zv, h1, h2⟩ := zero?_rel hz
  have hv := avL_VRL (m := m) (F := F) h2
  obtain ⟨g1, g2⟩ := hw.pushCells t z zv.cells hv.cell hv.1
  refine ⟨_, _, .value (.pointer (some ⟨w.heap.size, 0, none⟩)), _, ?_, .inl ⟨_, rfl, ?_⟩, g1, g2⟩
  · simp [execOp, ho, Instr.alloc, Sem.run_bind, run_zero h1, Result.andThen, newVar, run_newRow']
  · exact VR.ptr H.length 0 ⟨w.heap.size, 0, z.length, zv.cells.size⟩ (upd_same _ _ _)

theorem VR.cellsL {m : Mp} {F : Fz} {v : AV} {v' : Value} (h : VR m F v v') (hu : v ≠ .und) : VRL m F v.cells v'.cells := by
  have one : ∀ {v : AV} {v' : Value}, VR m F v v' → VRL m F [v] #[v'] := fun {v v'} h => ⟨rfl, fun i a b x y => by
    cases i with
    | zero => simp at x y; subst x; subst y; exact h
    | succ i => simp at x⟩
  cases h with
  | und => exact absurd rfl hu
  | agg cs vs hn h => exact ⟨hn, h⟩
  | _ => exact one (by constructor <;> assumption)

end Go.EV

/- Loads and stores, boxes and literals. -/
namespace Go.EV
open Go.RowKit
variable {P : Program} {Fb : Fz}

def Cells (m : Mp) (F : Fz) (w : World) (cs : List AV) (c d : Nat) : Prop := ∀ (i : Nat) (v : AV), cs[i]? = some v → ∃ v', w.cell? ⟨c, d + i, none⟩ = some v' ∧ VR m F v v'
theorem cell_of_cells {w : World} {c : Nat} {arr : Array Value} {t : TypeId} {fr : Nat × Nat} (h : w.heap[c]? = some (.cells arr t fr)) (i : Nat) : w.cell? ⟨c, i, none⟩ = arr[i]? := by
  simp [World.cell?, h]
theorem cell_of_fcell {m : Mp} {F : Fz} {H : Hp} {w : World} (hw : WR P Fb m F H w) {c i : Nat} {v : Value} (h : fcell F c i = some v) : w.cell? ⟨c, i, none⟩ = some v := by
  unfold fcell at h
  split at h
  · rename_i arr t fr e
    rw [cell_of_cells (hw.fz c _ e)]; exact h
  · cases h
theorem ptr_cells {m : Mp} {F : Fz} {H : Hp} {w : World} (hw : WR P Fb m F H w) {b st ty : Nat} {cs : List AV} {p : Pl} (hm : m b = some p) (hb : H[b]? = some (.cells st ty cs)) : Cells m F w cs p.c p.d := by
  intro i v e
  obtain ⟨k, hk, hbr⟩ := hw.blk b p hm
  rw [hb] at hk; cases hk
  obtain ⟨_, arr, lo, hi, h0, h1, _, _, h4, _⟩ := hbr
  have hh : w.heap[p.c]? = some (.cells arr ty (lo, hi)) := by
    by_cases e0 : st = 0
    · exact hw.fz _ _ (h0 e0)
    · exact h1 e0
  obtain ⟨v', a, b'⟩ := h4 i v e
  exact ⟨v', by rw [cell_of_cells hh]; exact a, b'⟩
theorem cptr_cells {m : Mp} {F : Fz} {H : Hp} {w : World} (hw : WR P Fb m F H w) {cs : List AV} {c d : Nat} {g : Nat → Value} (h1 : ∀ (i : Nat) (v : AV), cs[i]? = some v → fcell F c (d + i) = some (g i)) (h2 : ∀ (i : Nat) (v : AV), cs[i]? = some v → VR m F v (g i)) : Cells m F w cs c d :=
  fun i v e => ⟨g i, cell_of_fcell hw (h1 i v e), h2 i v e⟩

theorem load_rel {m : Mp} {F : Fz} {w : World} {cs : List AV} {c d o n : Nat} {ag : Bool} {v : AV} {t : TypeId} (hc : Cells m F w cs c d) (h : ldc cs o n ag = some v) (hl : lay? P t = some (n, ag)) :
    ∃ v', (loadVar t ⟨c, d + o, none⟩).run P w = .ok v' w ∧ VR m F v v' := by
  unfold lay? at hl
  cases hs : sizeOf? P t with
  | none => rw [hs] at hl; cases hl
  | some k =>
    cases hg : isAgg? P t with
    | none => rw [hs, hg] at hl; cases hl
    | some b =>
      rw [hs, hg] at hl
      cases b with
      | true =>
        simp only [Option.some.injEq, Prod.mk.injEq] at hl
        obtain ⟨rfl, rfl⟩ := hl
        unfold ldc at h
        simp only at h
        split at h
        · rename_i hle
          cases h
          let l : List Value := (List.range k).map fun j => (w.cell? ⟨c, d + (o + j), none⟩).getD undef
          have hll : l.length = k := by simp [l]
          have hcell : ∀ (j : Nat) (u : Value), l[j]? = some u → w.cell? ((⟨c, d + o, none⟩ : Addr).add j) = some u := by
            intro j u hj
            have hjk : j < k := by rw [← hll]; exact (List.getElem?_eq_some_iff.1 hj).1
            obtain ⟨x, hx, _⟩ := hc (o + j) (cs[o + j]'(by omega)) (List.getElem?_eq_getElem (by omega))
            rw [Addr.add_lit]
            simp only [l, List.getElem?_map, List.getElem?_range hjk, Option.map_some, Option.some.injEq] at hj
            rw [hx] at hj
            rw [Nat.add_assoc, hx, ← hj]; rfl
          have hr := run_loadCells_list (P := P) (w := w) ⟨c, d + o, none⟩ l hcell
          rw [hll] at hr
          refine ⟨.agg l.toArray, by simp [loadVar, Sem.run_bind, run_agg? hg, run_size hs, Result.andThen, hr], .agg _ _ (by simp [hll]; omega) fun i x x' e1 e2 => ?_⟩
          have hik : i < k := by
            have := (List.getElem?_eq_some_iff.1 e1).1
            simp at this; omega
          obtain ⟨y, hy, hyr⟩ := hc (o + i) x (by rw [List.getElem?_take_of_lt hik, List.getElem?_drop] at e1; exact e1)
          simp only [List.getElem?_toArray, l, List.getElem?_map, List.getElem?_range hik, Option.map_some, Option.some.injEq] at e2
          rw [hy] at e2
          subst e2
          exact hyr
        · cases h
      | false =>
        have hk : k = 1 ∧ n = 1 ∧ ag = false := by
          match k, hl with
          | 0, hl => cases hl
          | 1, hl => cases hl; exact ⟨rfl, rfl, rfl⟩
          | k + 2, hl => cases hl
        obtain ⟨rfl, rfl, rfl⟩ := hk
        unfold ldc at h
        obtain ⟨x, hx, hr⟩ := hc o v h
        exact ⟨x, by simp [loadVar, Sem.run_bind, run_agg? hg, Result.andThen, hx], hr⟩

theorem sim_load {o : Oper} {t : TypeId} {x : Operand} {cx : CX} {n : Nat} {ag : Bool} (ho : o.op = .load t x) (hl : lay? P t = some (n, ag)) (hx : compX x = some cx) : SimO P Fb o (.load n ag cx) := by
  intro m F f a H w v H' hf hw h
  have h1 := compX_rel hf hx
  simp only [evI] at h
  obtain ⟨u, hu, hv⟩ := map_some h
  cases hv
  generalize cx.ev f = cv at h1 hu
  generalize hax : a.eval x = vx at h1
  have fin : ∀ {cs : List AV} {c d off : Nat}, Cells m F w cs c d → ldc cs off n ag = some v → vx = .pointer (some ⟨c, d + off, none⟩) →
      ∃ m' F' nx w', (execOp a.eval o).run P w = .ok nx w' ∧ NxR m' F' v nx ∧ WR P Fb m' F' H w' ∧ Gs m F H w m' F' H w' := by
    intro cs c d off hc hld e
    obtain ⟨v', hr, hv⟩ := load_rel (P := P) hc hld hl
    have := sim_pure (P := P) (s := Instr.loadAt t vx) hw (by rw [e]; simp [Instr.loadAt, Instr.sureAddr, hr]) hv
    simpa [execOp, ho, hax] using this
  cases h1 with
  | ptr b off p hm =>
    unfold evLoad at hu
    simp only at hu
    split at hu
    · rename_i st ty cs hb; exact fin (ptr_cells hw hm hb) hu rfl
    · cases hu
  | cptr cs off c d g hq h1 h2 => exact fin (cptr_cells hw h1 h2) hu rfl
  | _ => cases hu

/-! ## Stores -/
def splice (arr : Array Value) (k : Nat) (vs : List Value) : Array Value := (arr.toList.take k ++ (vs ++ arr.toList.drop (k + vs.length))).toArray
theorem splice_size {arr : Array Value} {k : Nat} {vs : List Value} (h : k + vs.length ≤ arr.size) : (splice arr k vs).size = arr.size := by
  simp [splice]; omega
theorem splice_get {arr : Array Value} {k : Nat} {vs : List Value} (h : k + vs.length ≤ arr.size) (i : Nat) : (splice arr k vs)[i]? = if k ≤ i ∧ i < k + vs.length then vs[i - k]? else arr[i]? := by
  simp only [splice, List.getElem?_toArray]
  by_cases h1 : i < k
  · rw [List.getElem?_append_left (by simp; omega), if_neg (by omega), List.getElem?_take_of_lt h1, Array.getElem?_toList]
  · rw [List.getElem?_append_right (by simp; omega)]
    have e : i - (arr.toList.take k).length = i - k := by simp; omega
    rw [e]
    by_cases h2 : i < k + vs.length
    · rw [if_pos (by omega), List.getElem?_append_left (by omega)]
    · rw [if_neg (by omega), List.getElem?_append_right (by omega), List.getElem?_drop, Array.getElem?_toList]
      congr 1; omega
theorem setCell_put {w : World} {c k : Nat} {arr : Array Value} {t : TypeId} {fr : Nat × Nat} (h : w.heap[c]? = some (.cells arr t fr)) (v : Value) : w.setCell ⟨c, k, none⟩ v = w.putObj c (.cells (arr.setIfInBounds k v) t fr) := by
  obtain ⟨hlt, he⟩ := Array.getElem?_eq_some_iff.1 h
  simp only [World.setCell, World.putObj]
  congr 1
  apply Array.ext_getElem?
  intro i
  by_cases e : i = c
  · subst e
    rw [Array.getElem?_modify, if_pos rfl, h, Array.getElem?_setIfInBounds_self]
    simp [hlt]
  · rw [Array.getElem?_setIfInBounds_ne (fun x => e x.symm), Array.getElem?_modify, if_neg (fun x => e x.symm)]
theorem putObj_put (w : World) (c : Nat) (o o' : Obj) : (w.putObj c o).putObj c o' = w.putObj c o' := by
  simp [World.putObj]
theorem run_storeCells_blk (c o lo hi : Nat) (t : TypeId) : ∀ (vs : List Value) (i : Nat) (arr : Array Value) (w : World), w.heap[c]? = some (.cells arr t (lo, hi)) → (∀ j, o + i ≤ j → ¬ (lo ≤ j ∧ j < hi)) → o + i + vs.length ≤ arr.size → (∀ v ∈ vs, v.oneCell' = true) →
    vs ≠ [] → (storeCells ⟨c, o, none⟩ vs i).run P w = .ok () (w.putObj c (.cells (splice arr (o + i) vs) t (lo, hi)))
  | [], _, _, _, _, _, _, _, hne => absurd rfl hne
  | v :: r, i, arr, w, hh, hfz, hlen, hone, _ => by
    have hlt : o + i < arr.size := by simp at hlen; omega
    have hcell : w.cell? ⟨c, o + i, none⟩ = some arr[o + i] := by rw [cell_of_cells hh]; exact Array.getElem?_eq_getElem hlt
    have hfr : w.frozen? ⟨c, o + i, none⟩ = false := by
      simp only [World.frozen?, hh]
      have := hfz (o + i) (Nat.le_refl _)
      simp only [Bool.and_eq_false_iff, decide_eq_false_iff_not]
      omega
    have hs := run_store P w ⟨c, o + i, none⟩ v .plain (hone v (by simp))
    rw [hcell] at hs
    simp only [hfr] at hs
    rw [setCell_put hh] at hs
    have hsp : splice arr (o + i) [v] = arr.setIfInBounds (o + i) v := by
      apply Array.ext_getElem?
      intro k
      rw [splice_get (by simp; omega)]
      by_cases e : k = o + i
      · subst e; simp [hlt]
      · rw [Array.getElem?_setIfInBounds_ne (fun x => e x.symm), if_neg (by simp; omega)]
    have hcl : c < w.heap.size := (Array.getElem?_eq_some_iff.1 hh).1
    cases r with
    | nil =>
      simp only [storeCells, Sem.run_bind, Addr.add_lit, Result.andThen]
      simp [hs, hsp]
    | cons v2 r =>
      have ih := run_storeCells_blk c o lo hi t (v2 :: r) (i + 1) (arr.setIfInBounds (o + i) v) (w.putObj c (.cells (arr.setIfInBounds (o + i) v) t (lo, hi))) (World.putObj_heap_same hcl) (fun j hj => hfz j (by omega)) (by simp at hlen ⊢; omega) (fun x hx => hone x (by simp at hx ⊢; exact .inr hx)) (by simp)
      have hss : splice (arr.setIfInBounds (o + i) v) (o + (i + 1)) (v2 :: r) = splice arr (o + i) (v :: v2 :: r) := by
        apply Array.ext_getElem?
        intro k
        rw [splice_get (by simp at hlen ⊢; omega), splice_get (by simpa using hlen)]
        by_cases e : k = o + i
        · subst e
          rw [if_neg (by omega), if_pos (by simp), Array.getElem?_setIfInBounds_self]
          simp [hlt]
        · by_cases e2 : o + (i + 1) ≤ k ∧ k < o + (i + 1) + (v2 :: r).length
          · have e3 : k - (o + i) = (k - (o + (i + 1))) + 1 := by omega
            rw [if_pos e2, if_pos (by simp at e2 ⊢; omega), e3, List.getElem?_cons_succ]
          · rw [if_neg e2, if_neg (by simp at e2 ⊢; omega), Array.getElem?_setIfInBounds_ne (fun x => e x.symm)]
      rw [hss, putObj_put] at ih
      simp only [storeCells, Sem.run_bind, Addr.add_lit] at ih ⊢
      simp only [if_false, Bool.false_eq_true] at hs
      rw [hs]
      simp only [Result.andThen]
      exact ih
end Go.EV

namespace Go.EV
open Go.RowKit
variable {P : Program} {Fb : Fz}

theorem stc_length {cs vs : List AV} {o : Nat} (h : o + vs.length ≤ cs.length) : (stc cs o vs).length = cs.length := by
  simp [stc]; omega
theorem stc_get {cs vs : List AV} {o : Nat} (h : o + vs.length ≤ cs.length) (i : Nat) : (stc cs o vs)[i]? = if o ≤ i ∧ i < o + vs.length then vs[i - o]? else cs[i]? := by
  simp only [stc]
  by_cases h1 : i < o
  · rw [List.getElem?_append_left (by simp; omega), if_neg (by omega), List.getElem?_take_of_lt h1]
  · rw [List.getElem?_append_right (by simp; omega)]
    have e : i - (cs.take o).length = i - o := by simp; omega
    rw [e]
    by_cases h2 : i < o + vs.length
    · rw [if_pos (by omega), List.getElem?_append_left (by omega)]
    · rw [if_neg (by omega), List.getElem?_append_right (by omega), List.getElem?_drop]
      congr 1; omega
theorem lay_size {t : TypeId} {n : Nat} {ag : Bool} (h : lay? P t = some (n, ag)) : sizeOf? P t = some n := by
  unfold lay? at h
  split at h
  · rename_i a b; simp only [Option.some.injEq, Prod.mk.injEq] at h; rw [b.symm.trans b] at *; cases h.1; assumption
  · rename_i a b; simp only [Option.some.injEq, Prod.mk.injEq] at h; cases h.1; assumption
  · cases h
theorem one_of {m : Mp} {F : Fz} {v : AV} {v' : Value} (h : VR m F v v') (h1 : v.one = true) : v'.oneCell' = true := by
  cases h <;> first | rfl | cases h1
theorem ne_und_of_one {y : AV} (h : y.cells.all AV.one = true) : y ≠ .und := by
  rintro rfl; simp [AV.cells, AV.one] at h
theorem VRL.one {m : Mp} {F : Fz} {cs : List AV} {vs : Array Value} (h : VRL m F cs vs) (h1 : cs.all AV.one = true) : ∀ v ∈ vs.toList, v.oneCell' = true := by
  intro v hv
  obtain ⟨i, hi, rfl⟩ := List.getElem_of_mem hv
  have hc : i < cs.length := by rw [h.1]; simpa using hi
  exact one_of (h.2 i cs[i] _ (List.getElem?_eq_getElem hc) (by rw [← Array.getElem?_toList]; exact List.getElem?_eq_getElem hi)) (List.all_eq_true.1 h1 _ (List.getElem_mem hc))

/-- Cells are stored into an own block. -/
theorem store_rel {m : Mp} {F : Fz} {H : Hp} {w : World} (hw : WR P Fb m F H w) {b ty o : Nat} {cs vs : List AV} {p : Pl} {us : Array Value} (hm : m b = some p) (hb : H[b]? = some (.cells 1 ty cs)) (hl : o + vs.length ≤ cs.length) (hv : VRL m F vs us)
    (h1 : vs.all AV.one = true) (hne : vs ≠ []) :
    ∃ w', (storeCells ⟨p.c, p.d + o, none⟩ us.toList).run P w = .ok () w' ∧ WR P Fb m F (H.set b (.cells 1 ty (stc cs o vs))) w' ∧ Gs m F H w m F (H.set b (.cells 1 ty (stc cs o vs))) w' := by
  obtain ⟨k, hk, hbr⟩ := hw.blk b p hm
  rw [hb] at hk; cases hk
  obtain ⟨hn, arr, lo, hi, h0, hh, h2, h3, h4, h5, h6, h7⟩ := hbr
  replace hh := hh (by omega)
  replace h5 := h5 rfl
  have hmut : mutAt H b := ⟨_, hb, by simp [mutB]⟩
  have hul : us.toList.length = vs.length := by simp [hv.1]
  have hr := run_storeCells_blk (P := P) p.c (p.d + o) lo hi ty us.toList 0 arr w hh (fun j _ => by omega) (by rw [hul]; omega) (hv.one h1) (by
    intro e; apply hne; apply List.eq_nil_of_length_eq_zero; rw [← hul, e]; rfl)
  rw [Nat.add_zero] at hr
  refine ⟨_, hr, ?_⟩
  refine hw.turn hm hmut _ _ ⟨by rw [stc_length hl]; exact hn, splice arr (p.d + o) us.toList, lo, hi, (fun h => (by cases h)), fun _ => World.putObj_heap_same (Array.getElem?_eq_some_iff.1 hh).1, ?_, ?_, ?_, fun _ => h5, fun _ => .inl h5, fun e => by rw [stc_length hl]; exact h7 e⟩ (fun r e => by rw [hh] at e; cases e)
  · rw [stc_length hl, splice_size (by rw [hul]; omega)]; exact h2
  · rw [splice_size (by rw [hul]; omega)]; exact h3
  · intro i v e
    rw [stc_get hl] at e
    rw [splice_get (by rw [hul]; omega)]
    by_cases hi : o ≤ i ∧ i < o + vs.length
    · rw [if_pos hi] at e
      rw [if_pos (by rw [hul]; omega)]
      obtain ⟨v', a, b⟩ := hv.cell _ _ e
      exact ⟨v', by rw [Array.getElem?_toList, show p.d + i - (p.d + o) = i - o by omega]; exact a, b⟩
    · rw [if_neg hi] at e
      rw [if_neg (by rw [hul]; omega)]
      exact h4 i v e

theorem sim_store {o : Oper} {t : TypeId} {x y : Operand} {cx cy : CX} {n : Nat} {ag : Bool} (ho : o.op = .store t x y) (hl : lay? P t = some (n, ag)) (hx : compX x = some cx) (hy : compX y = some cy) : SimO P Fb o (.store n cx cy) := by
  intro m F f a H w v H' hf hw h
  have h1 := compX_rel hf hx
  have h2 := compX_rel hf hy
  simp only [evI] at h
  obtain ⟨H2, hu, hv⟩ := map_some h
  cases hv
  generalize cx.ev f = cv at h1 hu
  generalize hax : a.eval x = vx at h1
  generalize cy.ev f = cu at h2 hu
  generalize hay : a.eval y = vy at h2
  cases h1 with
  | ptr b off p hm =>
    unfold evStore at hu
    simp only at hu
    split at hu
    · rename_i ty cs hb
      split at hu
      · rename_i hc
        cases hu
        obtain ⟨c1, c2, c3, c4⟩ := hc
        have hvl := h2.cellsL (ne_und_of_one c3)
        obtain ⟨w', r1, r2, r3⟩ := store_rel hw hm hb (by rw [c1]; exact c2) hvl c3 (by intro e; rw [e] at c1; simp at c1; omega)
        refine ⟨m, F, .skip, w', ?_, .inr ⟨rfl, rfl⟩, r2, r3⟩
        have hs : vy.cells.size = n := by rw [← hvl.1]; exact c1
        simp [execOp, ho, hax, hay, Instr.storeAt, Instr.sureAddr, storeVar, Sem.run_bind, run_size (lay_size hl), Result.andThen, hs, r1]
      · cases hu
    · cases hu
  | _ => cases hu

theorem sim_box {o : Oper} {t : TypeId} {x : Operand} {cx : CX} (ho : o.op = .box t x) (hx : compX x = some cx) : SimO P Fb o (.box t cx) := by
  intro m F f a H w v H' hf hw h
  have h1 := compX_rel hf hx
  simp only [evI] at h
  split at h
  · cases h
  rename_i hu
  simp only [Option.some.injEq, Prod.mk.injEq] at h
  obtain ⟨rfl, rfl⟩ := h
  have hv := h1.cellsL (fun e => by rw [e] at hu; cases hu)
  obtain ⟨g1, g2⟩ := hw.pushCells t _ _ hv.cell hv.1
  refine ⟨_, _, .value (.pointer (some ⟨w.heap.size, 0, none⟩)), _, ?_, .inl ⟨_, rfl, ?_⟩, g1, g2⟩
  · simp [execOp, ho, Instr.box, Result.andThen, newVar, run_newRow']
  · exact VR.ptr H.length 0 _ (upd_same _ _ _)
end Go.EV

/- Numbers, bools, strings; places. -/
namespace Go.EV
open Go.RowKit
variable {P : Program} {Fb : Fz}

theorem sim_nilck {o : Oper} {x : Operand} {cx : CX} (ho : o.op = .nilCheck x) (hx : compX x = some cx) : SimO P Fb o (.nilck cx) := by
  intro m F f a H w v H' hf hw h
  have h1 := compX_rel hf hx
  simp only [evI] at h
  generalize hcv : cx.ev f = cv at h1 h
  generalize hax : a.eval x = vx at h1
  have fin : cv = v → H = H' → (execOp a.eval o).run P w = .ok (.value vx) w → ∃ m' F' nx w', (execOp a.eval o).run P w = .ok nx w' ∧ NxR m' F' v nx ∧ WR P Fb m' F' H' w' ∧ Gs m F H w m' F' H' w' := by
    rintro rfl rfl hr
    exact ⟨m, F, _, w, hr, .inl ⟨_, rfl, h1⟩, hw, Gs.refl ..⟩
  cases h1 with
  | ptr b off p hm =>
    simp only [Option.some.injEq, Prod.mk.injEq] at h
    exact fin h.1 h.2 (by simp [execOp, ho, hax])
  | cptr cs off c d g hq h1 h2 =>
    simp only [Option.some.injEq, Prod.mk.injEq] at h
    exact fin h.1 h.2 (by simp [execOp, ho, hax])
  | fn g cs vs hn hh =>
    simp only [Option.some.injEq, Prod.mk.injEq] at h
    exact fin h.1 h.2 (by simp [execOp, ho, hax])
  | yld b p hm =>
    simp only [Option.some.injEq, Prod.mk.injEq] at h
    exact fin h.1 h.2 (by simp [execOp, ho, hax])
  | _ => cases h

theorem sim_faddr {o : Oper} {s : TypeId} {x : Operand} {cx : CX} {fi : Nat} {fs : Array Field} {fd : Field} {k : Nat} (ho : o.op = .fieldAddr s x fi) (hs : P.underlying s = some (.struct fs)) (hf' : fs[fi]? = some fd) (hk : sizeOf? P fd.type = some (k + 1)) (hx : compX x = some cx) :
    SimO P Fb o (.faddr fd.offset cx) := by
  intro m F f a H w v H' hf hw h
  have h1 := compX_rel hf hx
  simp only [evI] at h
  obtain ⟨u, hu, hv⟩ := map_some h
  cases hv
  generalize cx.ev f = cv at h1 hu
  generalize hax : a.eval x = vx at h1
  have run : ∀ c d, vx = .pointer (some ⟨c, d, none⟩) → (Instr.fieldAt s vx fi).run P w = .ok (.pointer (some ⟨c, d + fd.offset, none⟩)) w := by
    rintro c d rfl
    simp [Instr.fieldAt, Sem.run_bind, run_underlying hs, Result.andThen, hf', Instr.sureAddr, fieldPlace, run_size hk, Addr.add_lit]
  cases h1 with
  | ptr b off p hm =>
    cases hu
    have := sim_pure hw (run _ _ rfl) (VR.ptr (F := F) b (off + fd.offset) p hm |> fun h => by rw [Nat.add_assoc]; exact h)
    simpa [execOp, ho, hax] using this
  | cptr cs off c d g hq h1 h2 =>
    cases hu
    have := sim_pure hw (run _ _ rfl) (VR.cptr (m := m) cs (off + fd.offset) c d g hq h1 h2 |> fun h => by rw [Nat.add_assoc]; exact h)
    simpa [execOp, ho, hax] using this
  | _ => cases hu

theorem part_rel {m : Mp} {F : Fz} {w : World} {cs : List AV} {vs : Array Value} {off n : Nat} {ag : Bool} {t : TypeId} {v : AV} (hv : VRL m F cs vs) (hl : lay? P t = some (n, ag)) (h : ldc cs off n ag = some v) :
    ∃ v', (part t vs off).run P w = .ok v' w ∧ VR m F v v' := by
  unfold lay? at hl
  cases hs : sizeOf? P t with
  | none => rw [hs] at hl; cases hl
  | some k =>
    cases hg : isAgg? P t with
    | none => rw [hs, hg] at hl; cases hl
    | some b =>
      rw [hs, hg] at hl
      cases b with
      | true =>
        simp only [Option.some.injEq, Prod.mk.injEq] at hl
        obtain ⟨rfl, rfl⟩ := hl
        unfold ldc at h
        simp only at h
        split at h
        · rename_i hle
          cases h
          have hsz := hv.1
          refine ⟨.agg (vs.extract off (off + k)), by simp [part, Sem.run_bind, run_agg? hg, run_size hs, Result.andThen], .agg _ _ (by simp; omega) fun i x x' e1 e2 => ?_⟩
          have hik : i < k := by
            have := (List.getElem?_eq_some_iff.1 e1).1
            simp at this; omega
          rw [List.getElem?_take_of_lt hik, List.getElem?_drop] at e1
          rw [Array.getElem?_extract] at e2
          split at e2
          · exact hv.2 _ _ _ e1 e2
          · cases e2
        · cases h
      | false =>
        have hk : k = 1 ∧ n = 1 ∧ ag = false := by
          match k, hl with
          | 0, hl => cases hl
          | 1, hl => cases hl; exact ⟨rfl, rfl, rfl⟩
          | k + 2, hl => cases hl
        obtain ⟨rfl, rfl, rfl⟩ := hk
        unfold ldc at h
        obtain ⟨x, hx, hr⟩ := hv.cell off v h
        exact ⟨x, by simp [part, Sem.run_bind, run_agg? hg, Result.andThen, hx], hr⟩

theorem sim_field {o : Oper} {s : TypeId} {x : Operand} {cx : CX} {fi : Nat} {fs : Array Field} {fd : Field} {n : Nat} {ag : Bool} (ho : o.op = .field s x fi) (hs : P.underlying s = some (.struct fs)) (hf' : fs[fi]? = some fd) (hl : lay? P fd.type = some (n, ag)) (hx : compX x = some cx) :
    SimO P Fb o (.field fd.offset n ag cx) := by
  intro m F f a H w v H' hf hw h
  have h1 := compX_rel hf hx
  simp only [evI] at h
  generalize cx.ev f = cv at h1 h
  generalize hax : a.eval x = vx at h1
  cases h1 with
  | agg cs vs hn hh =>
    obtain ⟨u, hu, hv⟩ := map_some h
    cases hv
    obtain ⟨v', hr, hv⟩ := part_rel (P := P) (w := w) ⟨hn, hh⟩ hl hu
    have := sim_pure (P := P) (s := Instr.field s (.agg vs) fi) hw (by simp [Instr.field, Sem.run_bind, run_underlying hs, Result.andThen, hf', asAgg, hr]) hv
    simpa [execOp, ho, hax] using this
  | _ => cases h

theorem sim_ext {o : Oper} {x : Operand} {cx : CX} {i : Nat} (ho : o.op = .extract x i) (hx : compX x = some cx) : SimO P Fb o (.ext i cx) := by
  intro m F f a H w v H' hf hw h
  have h1 := compX_rel hf hx
  simp only [evI] at h
  generalize cx.ev f = cv at h1 h
  generalize hax : a.eval x = vx at h1
  cases h1 with
  | tup cs vs hn hh =>
    obtain ⟨u, hu, hv⟩ := map_some h
    cases hv
    obtain ⟨v', e, hr⟩ := VRL.cell ⟨hn, hh⟩ _ _ hu
    have := sim_pure (P := P) (s := Instr.extract (.tuple vs) i) hw (by simp [Instr.extract, e]) hr
    simpa [execOp, ho, hax] using this
  | _ => cases h

theorem sim_mkif {o : Oper} {t : TypeId} {x : Operand} {cx : CX} {d : TypeDesc} (ho : o.op = .makeInterface t x) (hd : P.underlying t = some d) (hn : ∀ ms, d ≠ .interface ms) (hx : compX x = some cx) : SimO P Fb o (.mkif t cx) := by
  intro m F f a H w v H' hf hw h
  have h1 := compX_rel hf hx
  simp only [evI, Option.some.injEq, Prod.mk.injEq] at h
  obtain ⟨rfl, rfl⟩ := h
  have hr : (Instr.makeInterface t (a.eval x)).run P w = .ok (.iface t (a.eval x)) w := by
    simp only [Instr.makeInterface, Sem.run_bind, run_underlying hd, Result.andThen]
    cases d <;> first | rfl | exact absurd rfl (hn _)
  have := sim_pure (P := P) hw hr (.iface t _ _ h1)
  simpa [execOp, ho] using this

theorem sim_mkfn {o : Oper} {g : Nat} {first caps : Array Operand} {cs : List CX} (ho : o.op = .makeFunc (.func g) first caps) (h0 : first.isEmpty = true) (hc : compXs caps.toList = some cs) : SimO P Fb o (.mkfn g cs) := by
  intro m F f a H w v H' hf hw h
  obtain ⟨h1, h2⟩ := compXs_rel hf _ _ hc
  simp only [evI, Option.some.injEq, Prod.mk.injEq] at h
  obtain ⟨rfl, rfl⟩ := h
  obtain rfl : first = #[] := Array.isEmpty_iff.1 h0
  have := sim_pure (P := P) (s := Instr.makeFunc (.func g) #[] (caps.map a.eval)) hw (by simp [Instr.makeFunc]) (.fn g (cs.map (·.ev f)) (caps.map a.eval) (by simpa using h1) (fun i v v' e1 e2 => h2 i v v' e1 (by rw [← Array.getElem?_toList] at e2; simpa using e2)))
  simpa [execOp, ho, Instr.makeFunc] using this

theorem sim_toint {o : Oper} {s d : TypeId} {x : Operand} {cx : CX} {k k0 : IntKind} (ho : o.op = .convert s d x) (hs : P.underlying s = some (.int k0)) (hd : P.underlying d = some (.int k)) (hx : compX x = some cx) : SimO P Fb o (.toint k cx) := by
  intro m F f a H w v H' hf hw h
  have h1 := compX_rel hf hx
  simp only [evI] at h
  generalize cx.ev f = cv at h1 h
  generalize hax : a.eval x = vx at h1
  cases h1 with
  | int q n =>
    simp only [Option.some.injEq, Prod.mk.injEq] at h
    obtain ⟨rfl, rfl⟩ := h
    have := sim_pure (P := P) (s := convert s d (.int q n)) hw (by simp [convert, Sem.run_bind, run_underlying hs, run_underlying hd, Result.andThen, Conv.intToInt]) (.int k (k.wrap n))
    simpa [execOp, ho, hax] using this
  | _ => cases h
theorem sim_same {o : Oper} {s d : TypeId} {x : Operand} {cx : CX} (ho : o.op = .convert s d x) (hs : P.underlying s = some .string) (hd : P.underlying d = some .string) (hx : compX x = some cx) : SimO P Fb o (.same cx) := by
  intro m F f a H w v H' hf hw h
  have h1 := compX_rel hf hx
  simp only [evI] at h
  generalize cx.ev f = cv at h1 h
  generalize hax : a.eval x = vx at h1
  cases h1 with
  | str q n e =>
    simp only [Option.some.injEq, Prod.mk.injEq] at h
    obtain ⟨rfl, rfl⟩ := h
    have := sim_pure (P := P) (s := convert s d (.string n)) hw (by simp [convert, Sem.run_bind, run_underlying hs, run_underlying hd, Result.andThen]) (.str q n e)
    simpa [execOp, ho, hax] using this
  | _ => cases h
theorem sim_un {o : Oper} {op : UnOp} {t : TypeId} {x : Operand} {cx : CX} (ho : o.op = .unOp op t x) (hx : compX x = some cx) : SimO P Fb o (.un op cx) := by
  intro m F f a H w v H' hf hw h
  have h1 := compX_rel hf hx
  simp only [evI] at h
  obtain ⟨u, hu, hv⟩ := map_some h
  cases hv
  generalize cx.ev f = cv at h1 hu
  generalize hax : a.eval x = vx at h1
  cases h1 with
  | int q n =>
    cases op <;> first | (cases hu; done) | skip
    cases hu
    have := sim_pure (P := P) (s := Op.unary .neg (.int q n)) hw (by simp [Op.unary, Op.intArith]) (.int q (q.wrap (0 - n)))
    simpa [execOp, ho, hax] using this
  | bool b =>
    cases op <;> first | (cases hu; done) | skip
    cases hu
    have := sim_pure (P := P) (s := Op.unary .not (.bool b)) hw (by simp [Op.unary]) (.bool (!b))
    simpa [execOp, ho, hax] using this
  | _ => cases op <;> cases hu

theorem sim_index {o : Oper} {t : TypeId} {x i : Operand} {cx ci : CX} (ho : o.op = .index t x i) (ht : P.underlying t = some .string) (hx : compX x = some cx) (hi : compX i = some ci) : SimO P Fb o (.index cx ci) := by
  intro m F f a H w v H' hf hw h
  have h1 := compX_rel hf hx
  have h2 := compX_rel hf hi
  simp only [evI] at h
  obtain ⟨u, hu, hv⟩ := map_some h
  cases hv
  generalize cx.ev f = cv at h1 hu
  generalize hax : a.eval x = vx at h1
  generalize ci.ev f = cu at h2 hu
  generalize hay : a.eval i = vy at h2
  cases h1 with
  | str s b e =>
    cases h2 with
    | int q n =>
      cases n with
      | negSucc n => cases hu
      | ofNat k =>
        simp only [evIdx] at hu
        split at hu
        · rename_i c hc
          cases hu
          subst e
          rw [List.getElem?_map, Array.getElem?_toList] at hc
          obtain ⟨u8, h3, h4⟩ := map_some hc
          have hb : b[k]? = some u8 := by
            obtain ⟨hlt, he⟩ := Array.getElem?_eq_some_iff.1 h3
            have hlt' : k < b.size := hlt
            simp [getElem?_pos, hlt']
            exact he
          subst h4
          have := sim_pure (P := P) (m := m) (F := F) (s := Instr.index t (.string b) (.int q (Int.ofNat k))) hw (by simp [Instr.index, asIntOf, Sem.run_bind, run_underlying ht, Result.andThen, hb]) (.int .u8 (u8.toNat : Nat))
          simpa [execOp, ho, hax, hay] using this
        · cases hu
    | _ => cases hu
  | _ => cases hu

theorem sim_iaddr {o : Oper} {t e : TypeId} {x i : Operand} {cx ci : CX} {es : Nat} (ho : o.op = .indexAddr t x i) (ht : P.underlying t = some (.slice e)) (hs : sizeOf? P e = some es) (hes : 0 < es) (hx : compX x = some cx) (hi : compX i = some ci) : SimO P Fb o (.iaddr es cx ci) := by
  intro m F f a H w v H' hf hw h
  have h1 := compX_rel hf hx
  have h2 := compX_rel hf hi
  simp only [evI] at h
  obtain ⟨u, hu, hv⟩ := map_some h
  cases hv
  generalize cx.ev f = cv at h1 hu
  generalize hax : a.eval x = vx at h1
  generalize ci.ev f = cu at h2 hu
  generalize hay : a.eval i = vy at h2
  have run : ∀ (A : Addr) (len cap k : Nat) (q : IntKind), k < len → (Instr.indexAt t (.slice (some A) len cap) (.int q (Int.ofNat k))).run P w = .ok (.pointer (some (A.add (k * es)))) w := by
    intro A len cap k q hk
    have : (Int.ofNat k) < (len : Int) := by simp; exact hk
    simp [Instr.indexAt, asIntOf, Sem.run_bind, run_underlying ht, Result.andThen, run_size hs, hk]
  unfold evIaddr at hu
  cases h2 with
  | int q n =>
    cases n with
    | negSucc n => cases hu
    | ofNat k =>
      simp only at hu
      cases h1 with
      | lst es' l A cap g hq hsp he hc h3 h4 =>
        simp only at hu
        split at hu
        · rename_i cc hcc
          split at hu
          · rename_i hlen
            have hee : es' = es := (he cc (List.mem_of_getElem? hcc)).symm.trans hlen
            subst hee
            cases hu
            have hk := (List.getElem?_eq_some_iff.1 hcc).1
            have hA : A.spot = none := hsp (by intro e; rw [e] at hcc; simp at hcc)
            have hadd : A.add (k * es') = ⟨A.block, (A.off + k * es') + 0, none⟩ := by
              unfold Addr.add
              split
              · rename_i e0; rw [e0]; cases A; simp_all
              · rfl
            have hvr : VR m F (.cptr cc 0) (.pointer (some ⟨A.block, (A.off + k * es') + 0, none⟩)) :=
              .cptr cc 0 A.block (A.off + k * es') (g k) (hq cc (List.mem_of_getElem? hcc)) (fun j v e => by rw [Nat.add_assoc]; exact h3 k cc j v hcc e) (fun j v e => h4 k cc j v hcc e)
            have := sim_pure (P := P) hw (run A l.length cap k q hk) (hadd ▸ hvr)
            simpa [execOp, ho, hax, hay] using this
          · cases hu
        · cases hu
      | sl es' b off len p A cap hm hl ha =>
        simp only at hu
        split at hu
        · rename_i hc
          obtain ⟨hc1, hc2⟩ := hc
          subst hc1
          cases hu
          have hA := (ha (by omega)).1
          have hadd : A.add (k * es') = ⟨p.c, p.d + (off + k * es'), none⟩ := by
            rw [hA, Addr.add_lit, Nat.add_assoc]
          have hvr : VR m F (.ptr b (off + k * es')) (.pointer (some ⟨p.c, p.d + (off + k * es'), none⟩)) := .ptr b _ p hm
          have := sim_pure (P := P) hw (run A len cap k q hc2) (hadd ▸ hvr)
          simpa [execOp, ho, hax, hay] using this
        · cases hu
      | nlst => simp at hu
      | _ => cases hu
  | _ => cases hu
end Go.EV

/- Operators. -/
namespace Go.EV
open Go.RowKit
variable {P : Program} {Fb : Fz}

theorem ba_toList (b : ByteArray) : b.toList = b.data.toList := by
  rw [ByteArray.toList]
  have loop : ∀ (n i : Nat) (r : List UInt8), n = b.size - i → ByteArray.toList.loop b i r = r.reverse ++ b.data.toList.drop i := by
    intro n
    induction n with
    | zero =>
      intro i r h
      have hl : b.data.toList.length = b.size := by rw [Array.length_toList]; rfl
      rw [ByteArray.toList.loop, if_neg (by omega), List.drop_eq_nil_of_le (by omega)]
      simp
    | succ n ih =>
      intro i r h
      have hi : i < b.size := by omega
      rw [ByteArray.toList.loop, if_pos hi, ih (i + 1) _ (by omega)]
      have hl : i < b.data.toList.length := by rw [Array.length_toList]; exact hi
      rw [List.drop_eq_getElem_cons hl]
      have : b.get! i = b.data.toList[i] := by
        have h2 : i < b.data.size := hi
        simp only [ByteArray.get!]
        exact getElem!_pos b.data i h2
      simp [this]
  simpa using loop b.size 0 [] (by omega)
theorem toNat_inj_list : ∀ (a b : List UInt8), a.map UInt8.toNat = b.map UInt8.toNat → a = b
  | [], [], _ => rfl
  | [], _ :: _, h => by simp at h
  | _ :: _, [], h => by simp at h
  | x :: a, y :: b, h => by
    simp only [List.map_cons, List.cons.injEq] at h
    rw [UInt8.toNat_inj.1 h.1, toNat_inj_list a b h.2]
theorem beq_list (a b : List UInt8) : (a == b) = decide (a.map UInt8.toNat = b.map UInt8.toNat) := by
  rw [Bool.eq_iff_iff]
  simp only [beq_iff_eq, decide_eq_true_eq]
  exact ⟨fun h => by rw [h], toNat_inj_list a b⟩
theorem bytesLess_list : ∀ (a b : List UInt8), Op.bytesLess a b = bytesLt (a.map UInt8.toNat) (b.map UInt8.toNat)
  | _, [] => by simp [Op.bytesLess, bytesLt]
  | [], _ :: _ => by simp [Op.bytesLess, bytesLt]
  | x :: a, y :: b => by
    simp only [Op.bytesLess, List.map_cons, bytesLt, bytesLess_list a b]
    congr 1
    congr 1
    rw [Bool.eq_iff_iff]
    simp only [beq_iff_eq, decide_eq_true_eq]
    exact ⟨fun h => by rw [h], fun h => UInt8.toNat_inj.1 h⟩

theorem run_str {m : Mp} {F : Fz} {w : World} {op : BinOp} {a b : List Nat} {x y : ByteArray} {r : AV} (hx : x.data.toList.map UInt8.toNat = a) (hy : y.data.toList.map UInt8.toNat = b) (h : evStr op a b = some r) :
    ∃ v', (Op.stringOp op x y).run P w = .ok v' w ∧ VR m F r v' := by
  have hsx : x.size = a.length := by rw [← hx, List.length_map, Array.length_toList]; rfl
  have hsy : y.size = b.length := by rw [← hy, List.length_map, Array.length_toList]; rfl
  have e1 : (x.toList == y.toList) = decide (a = b) := by rw [ba_toList, ba_toList, beq_list, hx, hy]
  have e2 : Op.bytesLess x.toList y.toList = bytesLt a b := by rw [ba_toList, ba_toList, bytesLess_list, hx, hy]
  cases op <;> simp only [evStr] at h <;> first | (cases h; done) | skip
  case add =>
    split at h
    · rename_i hle
      cases h
      refine ⟨.string (x ++ y), ?_, .str _ _ ?_⟩
      · simp only [Op.stringOp, IntKind.max_i64]
        rw [if_neg (by rw [hsx, hsy]; unfold mxLen at hle; omega)]
        rfl
      · rw [← hx, ← hy]; simp
    · cases h
  all_goals
    cases h
    exact ⟨_, by simp only [Op.stringOp, e1, e2]; rfl, .bool _⟩

theorem run_int {m : Mp} {F : Fz} {w : World} {op : BinOp} {t : TypeId} {q q' : IntKind} {a b : Int} {r : AV} (h : (if isShift op then evShift op q a b else if q = q' then evInt op q a b else none) = some r) :
    ∃ v', (binOp op t (.int q a) (.int q' b)).run P w = .ok v' w ∧ VR m F r v' := by
  cases hs : isShift op with
  | true =>
    rw [hs] at h
    simp only [if_true] at h
    unfold evShift at h
    split at h
    · cases h
    rename_i hb
    cases op <;> first | (cases hs; done) | skip
    all_goals
      simp only at h
      cases h
      exact ⟨_, by simp only [binOp, Op.shift, if_neg hb]; rfl, .int _ _⟩
  | false =>
    rw [hs] at h
    simp only [if_false, Bool.false_eq_true] at h
    split at h
    · rename_i hq
      subst hq
      have hz : ∀ {s : Value}, (if b = 0 then none else some r) = some r → ¬ b = 0 := by
        intro s h e; rw [if_pos e] at h; cases h
      cases op <;> simp only [evInt] at h <;> first | (cases h; done) | (cases hs; done) | skip
      case quo =>
        split at h
        · cases h
        · rename_i hb; cases h; exact ⟨_, by simp only [binOp, Op.intDiv, if_neg hb, ne_eq, not_true_eq_false, if_false]; rfl, .int _ _⟩
      case rem =>
        split at h
        · cases h
        · rename_i hb; cases h; exact ⟨_, by simp only [binOp, Op.intDiv, if_neg hb, ne_eq, not_true_eq_false, if_false]; rfl, .int _ _⟩
      all_goals
        cases h
        first
          | exact ⟨_, by simp only [binOp, Op.intArith, ne_eq, not_true_eq_false, if_false]; rfl, .int _ _⟩
          | exact ⟨_, by simp only [binOp, ne_eq, not_true_eq_false, if_false]; rfl, .int _ _⟩
          | exact ⟨_, by simp only [binOp, Op.intCmp, ne_eq, not_true_eq_false, if_false]; rfl, .bool _⟩
    · cases h

theorem run_equal {t : TypeId} {x y : Value} {b : Bool} {w : World} (h : ∀ d : Nat, (Op.equalIn (d + 1) t x y).run P w = .ok b w) : (Op.equal t x y).run P w = .ok b w := by
  simp only [Op.equal, Op.maxDepth]; exact h 9999

theorem run_eq1 {m : Mp} {F : Fz} {w : World} {t : TypeId} {k : EqK} {x y : AV} {x' y' : Value} {b : Bool} (hx : VR m F x x') (hy : VR m F y y') (h : evEq k x y = some b) (hk : ∀ l, k ≠ .cells l)
    (hb : k = .bool → P.underlying t = some .bool) (hp : k = .ptr → ∃ e, P.underlying t = some (.pointer e)) (hs : k = .slice → ∃ e, P.underlying t = some (.slice e)) (hi : k = .iface → ∃ e, P.underlying t = some (.interface e)) :
    (Op.equal t x' y').run P w = .ok b w := by
  refine run_equal fun d => ?_
  unfold evEq at h
  split at h <;> first | (cases h; done) | skip
  case h_19 => exact absurd rfl (hk _)
  all_goals
    cases h
    cases hx
    cases hy
    first
      | (have hu := hb rfl; simp [Op.equalIn, run_underlying hu]; done)
      | (obtain ⟨e, hu⟩ := hp rfl; simp [Op.equalIn, run_underlying hu]; done)
      | (obtain ⟨e, hu⟩ := hs rfl; simp [Op.equalIn, run_underlying hu]; done)
      | (obtain ⟨e, hu⟩ := hi rfl; simp [Op.equalIn, run_underlying hu]; done)

theorem run_part1 {t : TypeId} {d : TypeDesc} (hd : P.underlying t = some d) (hs : d = .bool ∨ d = .string ∨ ∃ k, d = .int k) {vs : Array Value} {i : Nat} {v : Value} (h : vs[i]? = some v) (w : World) : (part t vs i).run P w = .ok v w := by
  have : (isAgg t).run P w = .ok false w := by
    rcases hs with rfl | rfl | ⟨k, rfl⟩ <;> simp [isAgg, Sem.run_bind, run_underlying hd, Result.andThen]
  simp [part, Sem.run_bind, this, Result.andThen, h]
theorem fk_cases {t : TypeId} {q : FK} (h : fk? P t = some q) : ∃ d, P.underlying t = some d ∧ (d = .bool ∨ d = .string ∨ ∃ k, d = .int k) ∧ (q = .i → ∃ k, d = .int k) ∧ (q = .b → d = .bool) ∧ (q = .s → d = .string) := by
  unfold fk? at h
  split at h <;> first | (cases h; done) | skip
  · rename_i k hd; cases h; exact ⟨_, hd, .inr (.inr ⟨k, rfl⟩), fun _ => ⟨k, rfl⟩, (fun e => (by cases e)), (fun e => (by cases e))⟩
  · rename_i hd; cases h; exact ⟨_, hd, .inl rfl, (fun e => (by cases e)), fun _ => rfl, (fun e => (by cases e))⟩
  · rename_i hd; cases h; exact ⟨_, hd, .inr (.inl rfl), (fun e => (by cases e)), (fun e => (by cases e)), fun _ => rfl⟩
theorem run_eqFields {m : Mp} {F : Fz} {w : World} {D : Nat} {xs ys : Array Value} : ∀ (fs : List Field) (i : Nat) (l : List FK) (x y : List AV) (r : Bool), flatFields P i fs = some l → eqCells l x y = some r →
    (∀ (j : Nat) (v : AV), x[j]? = some v → ∃ v', xs[i + j]? = some v' ∧ VR m F v v') → (∀ (j : Nat) (v : AV), y[j]? = some v → ∃ v', ys[i + j]? = some v' ∧ VR m F v v') →
    (Op.eqFields (D + 1) xs ys fs).run P w = .ok r w
  | [], i, l, x, y, r, hf, he, hx, hy => by
    cases hf
    cases x <;> cases y <;> first | (cases he; done) | skip
    cases he
    simp [Op.eqFields]
  | f :: fs, i, l, x, y, r, hf, he, hx, hy => by
    unfold flatFields at hf
    split at hf
    · rename_i hc
      cases hk : fk? P f.type with
      | none => rw [hk] at hf; cases hf
      | some q =>
        cases hr : flatFields P (i + 1) fs with
        | none => rw [hk, hr] at hf; cases hf
        | some l2 =>
          rw [hk, hr] at hf
          cases hf
          obtain ⟨d, hd, hs, hi, hb, hst⟩ := fk_cases hk
          cases x with
          | nil => cases q <;> cases he
          | cons a x =>
          cases y with
          | nil => cases q <;> cases a <;> cases he
          | cons b y =>
          obtain ⟨a', ha, hra⟩ := hx 0 a rfl
          obtain ⟨b', hb', hrb⟩ := hy 0 b rfl
          have px := run_part1 hd hs (vs := xs) (i := f.offset) (v := a') (by rw [hc.1]; exact ha) w
          have py := run_part1 hd hs (vs := ys) (i := f.offset) (v := b') (by rw [hc.1]; exact hb') w
          have hx2 : ∀ (j : Nat) (v : AV), x[j]? = some v → ∃ v', xs[(i + 1) + j]? = some v' ∧ VR m F v v' := fun j v e => by
            obtain ⟨v', h1, h2⟩ := hx (j + 1) v (by simpa using e); exact ⟨v', by rw [show i + 1 + j = i + (j + 1) by omega]; exact h1, h2⟩
          have hy2 : ∀ (j : Nat) (v : AV), y[j]? = some v → ∃ v', ys[(i + 1) + j]? = some v' ∧ VR m F v v' := fun j v e => by
            obtain ⟨v', h1, h2⟩ := hy (j + 1) v (by simpa using e); exact ⟨v', by rw [show i + 1 + j = i + (j + 1) by omega]; exact h1, h2⟩
          have fin : ∀ (c r2 : Bool), (Op.equalIn (D + 1) f.type a' b').run P w = .ok c w → eqCells l2 x y = some r2 → (Op.eqFields (D + 1) xs ys (f :: fs)).run P w = .ok (c && r2) w := by
            intro c r2 h1 h2
            have ih := run_eqFields (D := D) (w := w) fs (i + 1) l2 x y r2 hr h2 hx2 hy2
            simp only [Op.eqFields, if_pos hc.2, Sem.run_bind, px, py, Result.andThen, h1]
            cases c with
            | true => simp only [Bool.not_true, if_neg Bool.false_ne_true, ih, Bool.true_and]
            | false => simp
          cases q with
          | i =>
            obtain ⟨kk, rfl⟩ := hi rfl
            cases a <;> first | (cases he; done) | skip
            cases b <;> first | (cases he; done) | skip
            simp only [eqCells] at he
            split at he
            · rename_i hq
              subst hq
              obtain ⟨r2, h1, h2⟩ := map_some he
              subst h2
              cases hra; cases hrb
              refine fin _ _ ?_ h1
              simp [Op.equalIn, Sem.run_bind, run_underlying hd, Result.andThen]
              rfl
            · cases he
          | b =>
            have := hb rfl; subst this
            cases a <;> first | (cases he; done) | skip
            cases b <;> first | (cases he; done) | skip
            simp only [eqCells] at he
            obtain ⟨r2, h1, h2⟩ := map_some he
            subst h2
            cases hra; cases hrb
            refine fin _ _ ?_ h1
            simp [Op.equalIn, Sem.run_bind, run_underlying hd, Result.andThen]
            rfl
          | s =>
            have := hst rfl; subst this
            cases a <;> first | (cases he; done) | skip
            cases b <;> first | (cases he; done) | skip
            simp only [eqCells] at he
            obtain ⟨r2, h1, h2⟩ := map_some he
            subst h2
            cases hra with
            | str _ b1 e1 =>
            cases hrb with
            | str _ b2 e2 =>
            refine fin _ _ ?_ h1
            rw [run_equalIn_string _ _ _ _ _ hd, ba_toList, ba_toList, beq_list, e1, e2]
    · cases hf

theorem run_eqs {m : Mp} {F : Fz} {w : World} {t : TypeId} {l : List FK} {x y : List AV} {xs ys : Array Value} {r : Bool} (hl : flat? P t = some l) (hx : VRL m F x xs) (hy : VRL m F y ys) (h : eqCells l x y = some r) :
    (Op.equalIn 10000 t (.agg xs) (.agg ys)).run P w = .ok r w := by
  unfold flat? at hl
  split at hl
  · rename_i fs hd
    split at hl
    · rename_i hc
      have hfo : P.fieldsOf t = fs := by simp [Program.fieldsOf, hd]
      rw [run_equalIn_struct w 9999 t xs ys (by rw [hfo]; exact hd) hc.1, hfo]
      exact run_eqFields (D := 9998) fs.toList 0 l x y r hl h (fun j v e => by rw [Nat.zero_add]; exact hx.cell j v e) (fun j v e => by rw [Nat.zero_add]; exact hy.cell j v e)
    · cases hl
  · cases hl
end Go.EV

/- Operators put together; lengths, cuts, literals. -/
namespace Go.EV
open Go.RowKit
variable {P : Program} {Fb : Fz}

theorem evBin_int {op : BinOp} {k : EqK} {q q' : IntKind} {a b : Int} : evBin op k (.int q a) (.int q' b) = if isShift op then evShift op q a b else if q = q' then evInt op q a b else none := rfl
theorem evBin_str {op : BinOp} {k : EqK} {a b : List Nat} : evBin op k (.str a) (.str b) = evStr op a b := rfl

theorem eqk_num {op : BinOp} {t : TypeId} {x y : Operand} {k : EqK} (h : eqk? P op t x y = some k) :
    (k = .bool → P.underlying t = some .bool) ∧ (k = .ptr → ∃ e, P.underlying t = some (.pointer e)) ∧ (k = .slice → ∃ e, P.underlying t = some (.slice e)) ∧ (k = .iface → ∃ e, P.underlying t = some (.interface e)) ∧ (∀ l, k = .cells l → flat? P t = some l) ∧ (k = .iface → (∃ c, x = .const c) ∨ ∃ c, y = .const c) := by
  unfold eqk? at h
  split at h
  all_goals first | (cases h; refine ⟨fun e => ?_, fun e => ?_, fun e => ?_, fun e => ?_, fun l e => ?_, fun e => ?_⟩ <;> cases e; done) | skip
  all_goals
    split at h
    all_goals first | (cases h; done) | skip
    all_goals
      rename_i hd
      first
        | (cases h; refine ⟨fun e => ?_, fun e => ?_, fun e => ?_, fun e => ?_, fun l e => ?_, fun e => ?_⟩ <;> first | (cases e; done) | exact hd | exact ⟨_, hd⟩; done)
        | (split at h <;> first | (cases h; done) | (cases h; refine ⟨fun e => ?_, fun e => ?_, fun e => ?_, fun e => ?_, fun l e => ?_, fun e => ?_⟩ <;> first | (cases e; done) | exact ⟨_, hd⟩ | exact .inl ⟨_, rfl⟩ | exact .inr ⟨_, rfl⟩); done)
        | (obtain ⟨l, h1, h2⟩ := map_some h; cases h2; refine ⟨fun e => ?_, fun e => ?_, fun e => ?_, fun e => ?_, fun l e => ?_, fun e => ?_⟩ <;> first | (cases e; exact h1) | cases e)

theorem evBin_eq {op : BinOp} {k : EqK} {x y r : AV} (h : evBin op k x y = some r) :
    (∃ q a q' b, x = .int q a ∧ y = .int q' b) ∨ (∃ a b, x = .str a ∧ y = .str b) ∨ (∃ b, evEq k x y = some b ∧ ((op = .eql ∧ r = .bool b) ∨ (op = .neq ∧ r = .bool (!b)))) := by
  unfold evBin at h
  split at h
  · exact .inl ⟨_, _, _, _, rfl, rfl⟩
  · exact .inr (.inl ⟨_, _, rfl, rfl⟩)
  · split at h
    · obtain ⟨b, h1, h2⟩ := map_some h; exact .inr (.inr ⟨b, h1, .inl ⟨rfl, h2.symm⟩⟩)
    · obtain ⟨b, h1, h2⟩ := map_some h; exact .inr (.inr ⟨b, h1, .inr ⟨rfl, h2.symm⟩⟩)
    · cases h

theorem run_binop_eq {t : TypeId} {x y : Value} {b : Bool} {w : World} (hx : ∀ q n, x ≠ .int q n) (hs : ∀ s, x ≠ .string s) (hf : ∀ q n, x ≠ .float q n) (hc : ∀ q n u, x ≠ .complex q n u) (h : (Op.equal t x y).run P w = .ok b w) :
    (binOp .eql t x y).run P w = .ok (.bool b) w ∧ (binOp .neq t x y).run P w = .ok (.bool (!b)) w := by
  cases x <;> first | exact absurd rfl (hx _ _) | exact absurd rfl (hs _) | exact absurd rfl (hf _ _) | exact absurd rfl (hc _ _ _) | (constructor <;> simp [binOp, h, Result.andThen])

theorem evEq_cells {l : List FK} {x y : AV} {b : Bool} (h : evEq (.cells l) x y = some b) : ∃ xs ys, x = .agg xs ∧ y = .agg ys ∧ eqCells l xs ys = some b := by
  cases x <;> cases y <;> first | exact ⟨_, _, rfl, rfl, h⟩ | cases h
theorem evEq_num {x y : AV} {b : Bool} (h : evEq .num x y = some b) : False := by
  cases x <;> cases y <;> cases h

theorem sim_bin {o : Oper} {op : BinOp} {t u : TypeId} {x y : Operand} {cx cy : CX} {k : EqK} (ho : o.op = .binOp op t x y u) (hk : eqk? P op t x y = some k) (hx : compX x = some cx) (hy : compX y = some cy) : SimO P Fb o (.bin op k cx cy) := by
  intro m F f a H w v H' hf hw h
  have h1 := compX_rel hf hx
  have h2 := compX_rel hf hy
  simp only [evI] at h
  obtain ⟨r, hu, hv⟩ := map_some h
  simp only [Prod.mk.injEq] at hv
  obtain ⟨rfl, rfl⟩ := hv
  generalize cx.ev f = cv at h1 hu
  generalize hax : a.eval x = vx at h1
  generalize cy.ev f = cu at h2 hu
  generalize hay : a.eval y = vy at h2
  have fin : ∀ {v' : Value}, (eqGuard op t x y vx vy).run P w = .ok () w → (binOp op t vx vy).run P w = .ok v' w → VR m F r v' → ∃ m' F' nx w', (execOp a.eval o).run P w = .ok nx w' ∧ NxR m' F' r nx ∧ WR P Fb m' F' H w' ∧ Gs m F H w m' F' H w' := by
    intro v' e1 e2 e3
    have := sim_pure (P := P) (s := do eqGuard op t x y vx vy; binOp op t vx vy) hw (by simp [Sem.run_bind, e1, Result.andThen, e2]) e3
    simpa [execOp, ho, hax, hay] using this
  rcases evBin_eq hu with ⟨q, n, q', n', rfl, rfl⟩ | ⟨s, s', rfl, rfl⟩ | ⟨b, he, hop⟩
  · cases h1; cases h2
    rw [evBin_int] at hu
    obtain ⟨v', r1, r2⟩ := run_int (P := P) (m := m) (F := F) (w := w) (t := t) hu
    exact fin (by rw [eqGuard_at_int]; rfl) r1 r2
  · cases h1 with
    | str _ b1 e1 =>
    cases h2 with
    | str _ b2 e2 =>
    rw [evBin_str] at hu
    obtain ⟨v', r1, r2⟩ := run_str (P := P) (m := m) (F := F) (w := w) e1 e2 hu
    refine fin (by rw [eqGuard_at_string]; rfl) ?_ r2
    have : binOp op t (.string b1) (.string b2) = Op.stringOp op b1 b2 := by cases op <;> rfl
    rw [this]; exact r1
  · obtain ⟨kb, kp, ks, ki, kc, kconst⟩ := eqk_num hk
    have main : ∀ (hg : (eqGuard op t x y vx vy).run P w = .ok () w) (hq : ∀ q n, vx ≠ .int q n) (hs : ∀ s, vx ≠ .string s) (hf : ∀ q n, vx ≠ .float q n) (hc : ∀ q n u, vx ≠ .complex q n u) (hr : (Op.equal t vx vy).run P w = .ok b w),
        ∃ m' F' nx w', (execOp a.eval o).run P w = .ok nx w' ∧ NxR m' F' r nx ∧ WR P Fb m' F' H w' ∧ Gs m F H w m' F' H w' := by
      intro hg hq hs hf hc hr
      obtain ⟨b1, b2⟩ := run_binop_eq (P := P) (t := t) hq hs hf hc hr
      rcases hop with ⟨rfl, rfl⟩ | ⟨rfl, rfl⟩
      · exact fin hg b1 (.bool _)
      · exact fin hg b2 (.bool _)
    cases k with
    | cells l =>
      obtain ⟨xs, ys, rfl, rfl, he⟩ := evEq_cells he
      cases h1 with
      | agg _ us hn hh =>
      cases h2 with
      | agg _ us2 hn2 hh2 =>
      have hfl := kc _ rfl
      have hgt : P.eqGuardType P.depth t = false := by
        unfold flat? at hfl
        split at hfl
        · split at hfl
          · rename_i hc; exact hc.2
          · cases hfl
        · cases hfl
      refine main (run_eqGuard_agg w op t x y us us2 hgt) (fun _ _ e => by cases e) (fun _ e => by cases e) (fun _ _ e => by cases e) (fun _ _ _ e => by cases e) ?_
      show (Op.equalIn 10000 t _ _).run P w = _
      exact run_eqs hfl ⟨hn, hh⟩ ⟨hn2, hh2⟩ he
    | num => exact (evEq_num he).elim
    | _ =>
      have hr := run_eq1 (P := P) (w := w) (t := t) h1 h2 he (fun l e => by cases e) kb kp ks ki
      refine main ?_ ?_ ?_ ?_ ?_ hr
      all_goals
        unfold evEq at he
        split at he <;> first | (cases he; done) | contradiction | skip
      all_goals
        cases h1
        first
          | (intros; intro e; cases e; done)
          | (simp only [eqGuard_at_bool, eqGuard_at_pointer, eqGuard_at_slice, eqGuard_at_iface]; rfl)
          | (cases h2; simp only [eqGuard_nil_iface]; rfl)
          | (cases h2; rcases kconst rfl with ⟨c, rfl⟩ | ⟨c, rfl⟩ <;> simp only [eqGuard_nil_constL, eqGuard_nil_constR] <;> rfl)
end Go.EV
