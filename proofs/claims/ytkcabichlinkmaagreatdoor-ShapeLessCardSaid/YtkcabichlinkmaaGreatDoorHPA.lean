/- The pure machine: slices that grow are told by what they hold. What its states have to do with the evaluator's. -/
import Derived.Test.YtkcabichlinkmaaGreatDoorHMM
namespace Go.EV

/-- A slice that grows: its elements' size, its block's type, the evaluator's block, what it holds. -/
structure Tk where
  es : Nat
  ty : Nat
  b : Nat
  l : List (List AV)
/-- The pure machine's blocks among the evaluator's; the slices that grow, by places; what the evaluator's blocks hold that are turned no more. -/
structure Wd where
  r : Nat → Option Nat
  t : Nat → Option Tk
  z : Nat → Option (List AV)

mutual
/-- Is it the same for both? -/
def rg : AV → Bool
  | .bool _ => true
  | .int _ _ => true
  | .str _ => true
  | .nilp => true
  | .nilm => true
  | .nilf => true
  | .nili => true
  | .nils => true
  | .err => true
  | .fn _ cs => rgL cs
  | .iface _ v => rg v
  | .agg cs => rgL cs
  | .tup cs => rgL cs
  | _ => false
def rgL : List AV → Bool
  | [] => true
  | v :: r => rg v && rgL r
end
mutual
/-- Is it as freezing leaves it? -/
def gf : AV → Bool
  | .bool _ => true
  | .int _ _ => true
  | .str _ => true
  | .nilp => true
  | .nilm => true
  | .nilf => true
  | .nili => true
  | .err => true
  | .lst _ => true
  | .fn _ cs => rgL cs && hfL cs
  | .iface _ v => rg v && hf v
  | .agg cs => gfL cs
  | .tup cs => gfL cs
  | _ => false
def gfL : List AV → Bool
  | [] => true
  | v :: r => gf v && gfL r
end
/-- The elements' cells are as freezing leaves them. -/
def gfLL (l : List (List AV)) : Bool := l.all gfL

inductive VS (W : Wd) : AV → AV → Prop
  | und (v : AV) : VS W .und v
  | eq (v : AV) (h : hf v = true) : VS W v v
  | lnil : VS W (.lst []) .nils
  | lemp : VS W (.lst []) .emp
  | ownn (s ty : Nat) : VS W (.own s ty []) .nils
  | owne (s ty : Nat) : VS W (.own s ty []) .emp
  | zst (es : Nat) (l : List (List AV)) (b o : Nat) (cs : List AV) (hz : W.z b = some cs) (hl : o + l.length * es ≤ cs.length) (hq : ∀ c, c ∈ l → gfL c = true) (he : ∀ c, c ∈ l → c.length = es)
      (h : ∀ i c j v v', l[i]? = some c → c[j]? = some v → cs[o + (i * es + j)]? = some v' → VS W v v') : VS W (.lst l) (.sl es b o l.length)
  | zptr (cs0 : List AV) (o b d : Nat) (cs : List AV) (hz : W.z b = some cs) (hl : d + cs0.length ≤ cs.length) (hq : gfL cs0 = true)
      (h : ∀ i v v', cs0[i]? = some v → cs[d + i]? = some v' → VS W v v') : VS W (.cptr cs0 o) (.ptr b (d + o))
  | ptr (b o b' : Nat) (h : W.r b = some b') : VS W (.ptr b o) (.ptr b' o)
  | own (s : Nat) (t : Tk) (h : W.t s = some t) (hn : t.l ≠ []) : VS W (.own s t.ty t.l) (.sl t.es t.b 0 t.l.length)
  | map (b b' : Nat) (h : W.r b = some b') : VS W (.map b) (.map b')
  | yld (b b' : Nat) (h : W.r b = some b') : VS W (.yld b) (.yld b')
  | fn (k : Nat) (cs cs' : List AV) (hn : cs.length = cs'.length) (h : ∀ (i : Nat) (v v' : AV), cs[i]? = some v → cs'[i]? = some v' → VS W v v') : VS W (.fn k cs) (.fn k cs')
  | iface (t : Nat) (v v' : AV) (h : VS W v v') : VS W (.iface t v) (.iface t v')
  | agg (cs cs' : List AV) (hn : cs.length = cs'.length) (h : ∀ (i : Nat) (v v' : AV), cs[i]? = some v → cs'[i]? = some v' → VS W v v') : VS W (.agg cs) (.agg cs')
  | tup (cs cs' : List AV) (hn : cs.length = cs'.length) (h : ∀ (i : Nat) (v v' : AV), cs[i]? = some v → cs'[i]? = some v' → VS W v v') : VS W (.tup cs) (.tup cs')
def VSL (W : Wd) (cs cs' : List AV) : Prop := cs.length = cs'.length ∧ ∀ (i : Nat) (v v' : AV), cs[i]? = some v → cs'[i]? = some v' → VS W v v'

/-! ## Words of lists -/
theorem VSL.nil {W : Wd} : VSL W [] [] := ⟨rfl, fun i v v' h => by simp at h⟩
theorem VSL.cons {W : Wd} {v v' : AV} {cs cs' : List AV} (h : VS W v v') (k : VSL W cs cs') : VSL W (v :: cs) (v' :: cs') :=
  ⟨by simp [k.1], fun i a b e1 e2 => by
    cases i with
    | zero => simp at e1 e2; subst e1; subst e2; exact h
    | succ i => simp at e1 e2; exact k.2 i a b e1 e2⟩
theorem VSL.head {W : Wd} {v v' : AV} {cs cs' : List AV} (h : VSL W (v :: cs) (v' :: cs')) : VS W v v' := h.2 0 v v' rfl rfl
theorem VSL.tail {W : Wd} {v v' : AV} {cs cs' : List AV} (h : VSL W (v :: cs) (v' :: cs')) : VSL W cs cs' :=
  ⟨by simpa using h.1, fun i a b e1 e2 => h.2 (i + 1) a b (by simpa using e1) (by simpa using e2)⟩
theorem VSL.cons_inv {W : Wd} {v : AV} {cs cs' : List AV} (h : VSL W (v :: cs) cs') : ∃ v' r, cs' = v' :: r ∧ VS W v v' ∧ VSL W cs r := by
  cases cs' with
  | nil => have := h.1; simp at this
  | cons v' r => exact ⟨v', r, rfl, h.head, h.tail⟩
theorem VSL.nil_inv {W : Wd} {cs' : List AV} (h : VSL W [] cs') : cs' = [] := by
  have := h.1
  exact List.length_eq_zero_iff.1 this.symm
theorem VSL.take {W : Wd} {cs cs' : List AV} (h : VSL W cs cs') (n : Nat) : VSL W (cs.take n) (cs'.take n) :=
  ⟨by simp [h.1], fun i a b e1 e2 => by
    rw [List.getElem?_take] at e1 e2
    split at e1
    · rename_i hi; rw [if_pos hi] at e2; exact h.2 i a b e1 e2
    · cases e1⟩
theorem VSL.drop {W : Wd} {cs cs' : List AV} (h : VSL W cs cs') (n : Nat) : VSL W (cs.drop n) (cs'.drop n) :=
  ⟨by simp [h.1], fun i a b e1 e2 => by
    rw [List.getElem?_drop] at e1 e2
    exact h.2 _ a b e1 e2⟩
theorem VSL.app {W : Wd} {a a' b b' : List AV} (h : VSL W a a') (k : VSL W b b') : VSL W (a ++ b) (a' ++ b') :=
  ⟨by simp [h.1, k.1], fun i x y e1 e2 => by
    by_cases hi : i < a.length
    · rw [List.getElem?_append_left hi] at e1
      rw [List.getElem?_append_left (by rw [← h.1]; exact hi)] at e2
      exact h.2 i x y e1 e2
    · rw [List.getElem?_append_right (by omega)] at e1
      rw [List.getElem?_append_right (by rw [← h.1]; omega), ← h.1] at e2
      exact k.2 _ x y e1 e2⟩
theorem VSL.at {W : Wd} {cs cs' : List AV} (h : VSL W cs cs') {i : Nat} {v : AV} (e : cs[i]? = some v) : ∃ v', cs'[i]? = some v' ∧ VS W v v' := by
  have hi : i < cs'.length := by rw [← h.1]; exact (List.getElem?_eq_some_iff.1 e).1
  exact ⟨_, List.getElem?_eq_getElem hi, h.2 i v _ e (List.getElem?_eq_getElem hi)⟩
theorem hfL_at {cs : List AV} (h : hfL cs = true) {i : Nat} {v : AV} (e : cs[i]? = some v) : hf v = true := by
  induction cs generalizing i with
  | nil => simp at e
  | cons x r ih =>
    simp only [hfL, Bool.and_eq_true] at h
    cases i with
    | zero => simp at e; subst e; exact h.1
    | succ i => exact ih h.2 (by simpa using e)
theorem VSL.eq {W : Wd} {cs : List AV} (h : hfL cs = true) : VSL W cs cs := ⟨rfl, fun i a b e1 e2 => by
  rw [e1] at e2; cases e2
  exact .eq _ (hfL_at h e1)⟩
theorem VSL.map {W : Wd} {α : Type} (g g' : α → AV) (l : List α) (h : ∀ x, x ∈ l → VS W (g x) (g' x)) : VSL W (l.map g) (l.map g') := by
  induction l with
  | nil => exact .nil
  | cons x r ih => exact .cons (h x (List.mem_cons_self ..)) (ih fun y hy => h y (List.mem_cons_of_mem _ hy))

/-! ## The other side, by this one -/
mutual
theorem rg_eq {W : Wd} : ∀ {v v' : AV}, rg v = true → VS W v v' → v' = v
  | .und, _, h, _ => by cases h
  | .bool _, _, _, h => by cases h; rfl
  | .int _ _, _, _, h => by cases h; rfl
  | .str _, _, _, h => by cases h; rfl
  | .nilp, _, _, h => by cases h; rfl
  | .ptr _ _, _, h, _ => by cases h
  | .cptr _ _, _, h, _ => by cases h
  | .nils, _, _, h => by cases h; rfl
  | .emp, _, h, _ => by cases h
  | .lst _, _, h, _ => by cases h
  | .sl _ _ _ _, _, h, _ => by cases h
  | .nilm, _, _, h => by cases h; rfl
  | .map _, _, h, _ => by cases h
  | .nilf, _, _, h => by cases h; rfl
  | .fn k cs, _, g, h => by
    cases h with
    | eq _ _ => rfl
    | fn _ _ cs' hn h => rw [rgL_eq (by simpa only [rg] using g) ⟨hn, h⟩]
  | .yld _, _, h, _ => by cases h
  | .nili, _, _, h => by cases h; rfl
  | .iface t v, _, g, h => by
    cases h with
    | eq _ _ => rfl
    | iface _ _ v' h => rw [rg_eq (by simpa only [rg] using g) h]
  | .err, _, _, h => by cases h; rfl
  | .agg cs, _, g, h => by
    cases h with
    | eq _ _ => rfl
    | agg _ cs' hn h => rw [rgL_eq (by simpa only [rg] using g) ⟨hn, h⟩]
  | .tup cs, _, g, h => by
    cases h with
    | eq _ _ => rfl
    | tup _ cs' hn h => rw [rgL_eq (by simpa only [rg] using g) ⟨hn, h⟩]
  | .own _ _ _, _, h, _ => by cases h
theorem rgL_eq {W : Wd} : ∀ {cs cs' : List AV}, rgL cs = true → VSL W cs cs' → cs' = cs
  | [], _, _, h => h.nil_inv
  | v :: r, _, g, h => by
    obtain ⟨v', r', rfl, h1, h2⟩ := h.cons_inv
    simp only [rgL, Bool.and_eq_true] at g
    rw [rg_eq g.1 h1, rgL_eq g.2 h2]
end
mutual
theorem rg_hf : ∀ {v : AV}, rg v = true → hf v = true
  | .und, h => by cases h
  | .bool _, _ => rfl
  | .int _ _, _ => rfl
  | .str _, _ => rfl
  | .nilp, _ => rfl
  | .ptr _ _, h => by cases h
  | .cptr _ _, h => by cases h
  | .nils, _ => rfl
  | .emp, h => by cases h
  | .lst _, h => by cases h
  | .sl _ _ _ _, h => by cases h
  | .nilm, _ => rfl
  | .map _, h => by cases h
  | .nilf, _ => rfl
  | .fn k cs, g => by simp only [rg] at g; simp only [hf]; exact rgL_hf g
  | .yld _, h => by cases h
  | .nili, _ => rfl
  | .iface t v, g => by simp only [rg] at g; simp only [hf]; exact rg_hf g
  | .err, _ => rfl
  | .agg cs, g => by simp only [rg] at g; simp only [hf]; exact rgL_hf g
  | .tup cs, g => by simp only [rg] at g; simp only [hf]; exact rgL_hf g
  | .own _ _ _, h => by cases h
theorem rgL_hf : ∀ {cs : List AV}, rgL cs = true → hfL cs = true
  | [], _ => rfl
  | v :: r, g => by
    simp only [rgL, Bool.and_eq_true] at g
    simp only [hfL, Bool.and_eq_true]
    exact ⟨rg_hf g.1, rgL_hf g.2⟩
end
mutual
theorem gf_hf : ∀ {v : AV}, gf v = true → hf v = true
  | .und, h => by cases h
  | .bool _, _ => rfl
  | .int _ _, _ => rfl
  | .str _, _ => rfl
  | .nilp, _ => rfl
  | .ptr _ _, h => by cases h
  | .cptr _ _, h => by cases h
  | .nils, h => by cases h
  | .emp, h => by cases h
  | .lst _, _ => rfl
  | .sl _ _ _ _, h => by cases h
  | .nilm, _ => rfl
  | .map _, h => by cases h
  | .nilf, _ => rfl
  | .fn k cs, g => by simp only [gf, Bool.and_eq_true] at g; simp only [hf]; exact g.2
  | .yld _, h => by cases h
  | .nili, _ => rfl
  | .iface t v, g => by simp only [gf, Bool.and_eq_true] at g; simp only [hf]; exact g.2
  | .err, _ => rfl
  | .agg cs, g => by simp only [gf] at g; simp only [hf]; exact gfL_hf g
  | .tup cs, g => by simp only [gf] at g; simp only [hf]; exact gfL_hf g
  | .own _ _ _, h => by cases h
theorem gfL_hf : ∀ {cs : List AV}, gfL cs = true → hfL cs = true
  | [], _ => rfl
  | v :: r, g => by
    simp only [gfL, Bool.and_eq_true] at g
    simp only [hfL, Bool.and_eq_true]
    exact ⟨gf_hf g.1, gfL_hf g.2⟩
end
theorem gfL_at {cs : List AV} (h : gfL cs = true) {i : Nat} {v : AV} (e : cs[i]? = some v) : gf v = true := by
  induction cs generalizing i with
  | nil => simp at e
  | cons x r ih =>
    simp only [gfL, Bool.and_eq_true] at h
    cases i with
    | zero => simp at e; subst e; exact h.1
    | succ i => exact ih h.2 (by simpa using e)

theorem VS.agg_inv {W : Wd} {cs : List AV} {v' : AV} (h : VS W (.agg cs) v') : ∃ cs', v' = .agg cs' ∧ VSL W cs cs' := by
  cases h with
  | eq _ h => exact ⟨cs, rfl, .eq (by simpa only [hf] using h)⟩
  | agg _ cs' hn h => exact ⟨cs', rfl, hn, h⟩
theorem VS.tup_inv {W : Wd} {cs : List AV} {v' : AV} (h : VS W (.tup cs) v') : ∃ cs', v' = .tup cs' ∧ VSL W cs cs' := by
  cases h with
  | eq _ h => exact ⟨cs, rfl, .eq (by simpa only [hf] using h)⟩
  | tup _ cs' hn h => exact ⟨cs', rfl, hn, h⟩
theorem VS.fn_inv {W : Wd} {k : Nat} {cs : List AV} {v' : AV} (h : VS W (.fn k cs) v') : ∃ cs', v' = .fn k cs' ∧ VSL W cs cs' := by
  cases h with
  | eq _ h => exact ⟨cs, rfl, .eq (by simpa only [hf] using h)⟩
  | fn _ _ cs' hn h => exact ⟨cs', rfl, hn, h⟩
theorem VS.ptr_inv {W : Wd} {b o : Nat} {v' : AV} (h : VS W (.ptr b o) v') : ∃ b', v' = .ptr b' o ∧ W.r b = some b' := by
  cases h with
  | eq _ h => cases h
  | ptr _ _ b' h => exact ⟨b', rfl, h⟩
theorem VS.map_inv {W : Wd} {b : Nat} {v' : AV} (h : VS W (.map b) v') : ∃ b', v' = .map b' ∧ W.r b = some b' := by
  cases h with
  | eq _ h => cases h
  | map _ b' h => exact ⟨b', rfl, h⟩
theorem VS.yld_inv {W : Wd} {b : Nat} {v' : AV} (h : VS W (.yld b) v') : ∃ b', v' = .yld b' ∧ W.r b = some b' := by
  cases h with
  | eq _ h => cases h
  | yld _ b' h => exact ⟨b', rfl, h⟩
theorem VS.cells {W : Wd} {v v' : AV} (h : VS W v v') (hu : v.isUnd = false) : VSL W v.cells v'.cells ∧ v'.isUnd = false := by
  cases v with
  | und => cases hu
  | agg cs => obtain ⟨cs', rfl, k⟩ := h.agg_inv; exact ⟨k, rfl⟩
  | _ => cases h <;> exact ⟨.cons (by first | exact .eq _ ‹_› | (constructor <;> assumption) | exact .own _ _ ‹_› ‹_› | exact .zst _ _ _ _ _ ‹_› ‹_› ‹_› ‹_› ‹_› | exact .zptr _ _ _ _ _ ‹_› ‹_› ‹_› ‹_›) .nil, rfl⟩
theorem VS.one {W : Wd} {v v' : AV} (h : VS W v v') (ho : v.one = true) : v'.one = true := by
  cases h <;> first | rfl | exact ho | (cases ho; done)
theorem VSL.ones {W : Wd} {cs cs' : List AV} (h : VSL W cs cs') (ho : cs.all AV.one = true) : cs'.all AV.one = true := by
  rw [List.all_eq_true] at ho ⊢
  intro x hx
  obtain ⟨i, hi⟩ := List.getElem?_of_mem hx
  have hlt : i < cs.length := by rw [h.1]; exact (List.getElem?_eq_some_iff.1 hi).1
  exact (h.2 i _ x (List.getElem?_eq_getElem hlt) hi).one (ho _ (List.getElem_mem hlt))

/-! ## Turning what is said of growing slices -/
mutual
def mt (g : Nat → Nat → List (List AV) → AV) : AV → AV
  | .own s ty l => g s ty l
  | .fn k cs => .fn k (mtL g cs)
  | .iface t v => .iface t (mt g v)
  | .agg cs => .agg (mtL g cs)
  | .tup cs => .tup (mtL g cs)
  | v => v
def mtL (g : Nat → Nat → List (List AV) → AV) : List AV → List AV
  | [] => []
  | v :: r => mt g v :: mtL g r
end
theorem mtL_map {g : Nat → Nat → List (List AV) → AV} : ∀ l, mtL g l = l.map (mt g)
  | [] => rfl
  | v :: r => by rw [mtL, mtL_map r]; rfl
mutual
theorem mt_hf {g : Nat → Nat → List (List AV) → AV} : ∀ {v : AV}, hf v = true → mt g v = v
  | .und, _ => rfl
  | .bool _, _ => rfl
  | .int _ _, _ => rfl
  | .str _, _ => rfl
  | .nilp, _ => rfl
  | .ptr _ _, _ => rfl
  | .cptr _ _, _ => rfl
  | .nils, _ => rfl
  | .emp, _ => rfl
  | .lst _, _ => rfl
  | .sl _ _ _ _, _ => rfl
  | .nilm, _ => rfl
  | .map _, _ => rfl
  | .nilf, _ => rfl
  | .fn k cs, h => by simp only [hf] at h; simp only [mt, mtL_hf h]
  | .yld _, _ => rfl
  | .nili, _ => rfl
  | .iface t v, h => by simp only [hf] at h; simp only [mt, mt_hf h]
  | .err, _ => rfl
  | .agg cs, h => by simp only [hf] at h; simp only [mt, mtL_hf h]
  | .tup cs, h => by simp only [hf] at h; simp only [mt, mtL_hf h]
  | .own _ _ _, h => by cases h
theorem mtL_hf {g : Nat → Nat → List (List AV) → AV} : ∀ {cs : List AV}, hfL cs = true → mtL g cs = cs
  | [], _ => rfl
  | v :: r, h => by
    simp only [hfL, Bool.and_eq_true] at h
    simp only [mtL, mt_hf h.1, mtL_hf h.2]
end
/-- What is told goes on to be told. -/
structure Goes (W W' : Wd) (g : Nat → Nat → List (List AV) → AV) : Prop where
  r : ∀ b b', W.r b = some b' → W'.r b = some b'
  z : ∀ b c, W.z b = some c → W'.z b = some c
  nl : ∀ s ty, VS W' (g s ty []) .nils ∧ VS W' (g s ty []) .emp
  t : ∀ s t, W.t s = some t → t.l ≠ [] → VS W' (g s t.ty t.l) (.sl t.es t.b 0 t.l.length)
theorem VS.go {W W' : Wd} {g : Nat → Nat → List (List AV) → AV} (hg : Goes W W' g) {v v' : AV} (h : VS W v v') : VS W' (mt g v) v' := by
  induction h with
  | und v => exact .und v
  | eq v h => rw [mt_hf h]; exact .eq v h
  | lnil => exact .lnil
  | lemp => exact .lemp
  | ownn s ty => exact (hg.nl s ty).1
  | owne s ty => exact (hg.nl s ty).2
  | zst es l b o cs hz hl hq he h ih =>
    refine .zst es l b o cs (hg.z _ _ hz) hl hq he fun i c j v v' e1 e2 e3 => ?_
    have := ih i c j v v' e1 e2 e3
    rwa [mt_hf (gf_hf (gfL_at (hq c (List.mem_of_getElem? e1)) e2))] at this
  | zptr cs0 o b d cs hz hl hq h ih =>
    refine .zptr cs0 o b d cs (hg.z _ _ hz) hl hq fun i v v' e1 e2 => ?_
    have := ih i v v' e1 e2
    rwa [mt_hf (gf_hf (gfL_at hq e1))] at this
  | ptr b o b' h => exact .ptr b o b' (hg.r _ _ h)
  | own s t h hn => exact hg.t s t h hn
  | map b b' h => exact .map b b' (hg.r _ _ h)
  | yld b b' h => exact .yld b b' (hg.r _ _ h)
  | fn k cs cs' hn h ih =>
    simp only [mt]
    refine .fn k _ cs' (by rw [mtL_map, List.length_map]; exact hn) fun i v v' e1 e2 => ?_
    rw [mtL_map, List.getElem?_map] at e1
    obtain ⟨x, hx, rfl⟩ := Option.map_eq_some_iff.1 e1
    exact ih i x v' hx e2
  | iface t v v' h ih => exact .iface t _ _ ih
  | agg cs cs' hn h ih =>
    simp only [mt]
    refine .agg _ cs' (by rw [mtL_map, List.length_map]; exact hn) fun i v v' e1 e2 => ?_
    rw [mtL_map, List.getElem?_map] at e1
    obtain ⟨x, hx, rfl⟩ := Option.map_eq_some_iff.1 e1
    exact ih i x v' hx e2
  | tup cs cs' hn h ih =>
    simp only [mt]
    refine .tup _ cs' (by rw [mtL_map, List.length_map]; exact hn) fun i v v' e1 e2 => ?_
    rw [mtL_map, List.getElem?_map] at e1
    obtain ⟨x, hx, rfl⟩ := Option.map_eq_some_iff.1 e1
    exact ih i x v' hx e2
theorem VSL.go {W W' : Wd} {g : Nat → Nat → List (List AV) → AV} (hg : Goes W W' g) {cs cs' : List AV} (h : VSL W cs cs') : VSL W' (mtL g cs) cs' :=
  ⟨by rw [mtL_map, List.length_map]; exact h.1, fun i v v' e1 e2 => by
    rw [mtL_map, List.getElem?_map] at e1
    obtain ⟨x, hx, rfl⟩ := Option.map_eq_some_iff.1 e1
    exact (h.2 i x v' hx e2).go hg⟩
/-- More blocks, the same growing slices. -/
structure Up (W W' : Wd) : Prop where
  r : ∀ b b', W.r b = some b' → W'.r b = some b'
  z : ∀ b c, W.z b = some c → W'.z b = some c
  t : ∀ s t, W.t s = some t → W'.t s = some t
theorem Up.refl (W : Wd) : Up W W := ⟨fun _ _ h => h, fun _ _ h => h, fun _ _ h => h⟩
theorem VS.up {W W' : Wd} (hu : Up W W') {v v' : AV} (h : VS W v v') : VS W' v v' := by
  induction h with
  | und v => exact .und v
  | eq v h => exact .eq v h
  | lnil => exact .lnil
  | lemp => exact .lemp
  | ownn s ty => exact .ownn s ty
  | owne s ty => exact .owne s ty
  | zst es l b o cs hz hl hq he h ih => exact .zst es l b o cs (hu.z _ _ hz) hl hq he ih
  | zptr cs0 o b d cs hz hl hq h ih => exact .zptr cs0 o b d cs (hu.z _ _ hz) hl hq ih
  | ptr b o b' h => exact .ptr b o b' (hu.r _ _ h)
  | own s t h hn => exact .own s t (hu.t _ _ h) hn
  | map b b' h => exact .map b b' (hu.r _ _ h)
  | yld b b' h => exact .yld b b' (hu.r _ _ h)
  | fn k cs cs' hn h ih => exact .fn k cs cs' hn ih
  | iface t v v' h ih => exact .iface t v v' ih
  | agg cs cs' hn h ih => exact .agg cs cs' hn ih
  | tup cs cs' hn h ih => exact .tup cs cs' hn ih
theorem VSL.up {W W' : Wd} (hu : Up W W') {v v' : List AV} (h : VSL W v v') : VSL W' v v' := ⟨h.1, fun i a b x y => (h.2 i a b x y).up hu⟩

/-! ## Frames and blocks -/
def FS (W : Wd) (f f' : Fr) : Prop := ∀ p v, f.get p = some v → ∃ v', f'.get p = some v' ∧ VS W v v'
theorem FS.up {W W' : Wd} (hu : Up W W') {f f' : Fr} (h : FS W f f') : FS W' f f' := fun p v e => by
  obtain ⟨v', a, b⟩ := h p v e
  exact ⟨v', a, b.up hu⟩
theorem FS.set {W : Wd} {f f' : Fr} (h : FS W f f') (p : Pth) {v v' : AV} (hv : VS W v v') : FS W (f.set p v) (f'.set p v') := by
  intro q u hq
  by_cases e : p = q
  · subst e
    cases hp : f.get p with
    | none => rw [Tr.get_set_none p f v hp] at hq; cases hq
    | some x =>
      rw [Tr.get_set_same p f v x hp] at hq
      obtain ⟨y, hy, _⟩ := h p x hp
      cases hq
      exact ⟨v', Tr.get_set_same p f' v' y hy, hv⟩
  · rw [Tr.get_set_ne p q f v e] at hq
    obtain ⟨y, hy, hr⟩ := h q u hq
    exact ⟨y, by rw [Tr.get_set_ne p q f' v' e]; exact hy, hr⟩
def mtF (g : Nat → Nat → List (List AV) → AV) : Fr → Fr
  | .leaf => .leaf
  | .node l x r => .node (mtF g l) (mt g x) (mtF g r)
theorem mtF_get {g : Nat → Nat → List (List AV) → AV} : ∀ (p : Pth) (f : Fr), (mtF g f).get p = (f.get p).map (mt g)
  | .h, .leaf => rfl
  | .l p, .leaf => rfl
  | .r p, .leaf => rfl
  | .h, .node _ _ _ => rfl
  | .l p, .node l _ _ => mtF_get p l
  | .r p, .node _ _ r => mtF_get p r
theorem FS.go {W W' : Wd} {g : Nat → Nat → List (List AV) → AV} (hg : Goes W W' g) {f f' : Fr} (h : FS W f f') : FS W' (mtF g f) f' := fun p v e => by
  rw [mtF_get] at e
  obtain ⟨x, hx, rfl⟩ := Option.map_eq_some_iff.1 e
  obtain ⟨v', a, b⟩ := h p x hx
  exact ⟨v', a, b.go hg⟩
def mtE (g : Nat → Nat → List (List AV) → AV) : List (AV × AV) → List (AV × AV)
  | [] => []
  | (k, v) :: r => (mt g k, mt g v) :: mtE g r
def mtB (g : Nat → Nat → List (List AV) → AV) : Blk → Blk
  | .cells st ty cs => .cells st ty (mtL g cs)
  | .dead => .dead
  | .map es => .map (mtE g es)
  | .loop st e f ps a b => .loop st e (mtF g f) ps a b
def mtH (g : Nat → Nat → List (List AV) → AV) : Hp → Hp
  | [] => []
  | b :: r => mtB g b :: mtH g r
theorem mtE_map {g : Nat → Nat → List (List AV) → AV} : ∀ l, mtE g l = l.map fun p => (mt g p.1, mt g p.2)
  | [] => rfl
  | (k, v) :: r => by rw [mtE, mtE_map r]; rfl
theorem mtH_map {g : Nat → Nat → List (List AV) → AV} : ∀ l, mtH g l = l.map (mtB g)
  | [] => rfl
  | b :: r => by rw [mtH, mtH_map r]; rfl
inductive BS (W : Wd) : Blk → Blk → Prop
  | dead (k : Blk) : BS W .dead k
  | cells (ty : Nat) (cs cs' : List AV) (h : VSL W cs cs') : BS W (.cells 1 ty cs) (.cells 1 ty cs')
  | map (es es' : List (AV × AV)) (hn : es.length = es'.length) (h : ∀ (i : Nat) (k v k' v' : AV), es[i]? = some (k, v) → es'[i]? = some (k', v') → VS W k k' ∧ VS W v v') : BS W (.map es) (.map es')
  | loop (st : Nat) (e : Ex) (f f' : Fr) (ps : List Pth) (a b : CC) (h : FS W f f') : BS W (.loop st e f ps a b) (.loop st e f' ps a b)
theorem BS.up {W W' : Wd} (hu : Up W W') {k k' : Blk} (h : BS W k k') : BS W' k k' := by
  cases h with
  | dead k => exact .dead _
  | cells ty cs cs' h => exact .cells ty cs cs' (h.up hu)
  | map es es' hn h => exact .map es es' hn fun i k v k' v' a b => ⟨(h i k v k' v' a b).1.up hu, (h i k v k' v' a b).2.up hu⟩
  | loop st e f f' ps a b h => exact .loop st e f f' ps a b (h.up hu)
theorem BS.go {W W' : Wd} {g : Nat → Nat → List (List AV) → AV} (hg : Goes W W' g) {k k' : Blk} (h : BS W k k') : BS W' (mtB g k) k' := by
  cases h with
  | dead k => exact .dead _
  | cells ty cs cs' h => exact .cells ty _ cs' (h.go hg)
  | map es es' hn h =>
    refine .map _ es' (by rw [mtE_map, List.length_map]; exact hn) fun i k v k' v' a b => ?_
    rw [mtE_map, List.getElem?_map] at a
    obtain ⟨⟨x, y⟩, hx, he⟩ := Option.map_eq_some_iff.1 a
    simp only [Prod.mk.injEq] at he
    obtain ⟨rfl, rfl⟩ := he
    exact ⟨(h i x y k' v' hx b).1.go hg, (h i x y k' v' hx b).2.go hg⟩
  | loop st e f f' ps a b h => exact .loop st e _ f' ps a b (h.go hg)

/-! ## Heaps -/
/-- A growing slice's block. -/
structure TkOk (W : Wd) (G : Hp) (t : Tk) : Prop where
  ne : t.l ≠ []
  gf : ∀ c, c ∈ t.l → gfL c = true
  len : ∀ c, c ∈ t.l → c.length = t.es
  at_ : ∃ cs, G[t.b]? = some (.cells 1 t.ty cs) ∧ cs.length = t.l.length * t.es ∧ ∀ i c j v v', t.l[i]? = some c → c[j]? = some v → cs[i * t.es + j]? = some v' → VS W v v'
structure Sm (W : Wd) (H G : Hp) : Prop where
  bx : ∀ b b', W.r b = some b' → ∃ k k', H[b]? = some k ∧ G[b']? = some k' ∧ BS W k k'
  bi : ∀ b c b', W.r b = some b' → W.r c = some b' → b = c
  tk : ∀ s t, W.t s = some t → TkOk W G t
  ti : ∀ s s' t t', W.t s = some t → W.t s' = some t' → t.b = t'.b → s = s'
  tb : ∀ s t b b', W.t s = some t → W.r b = some b' → b' ≠ t.b
  rz : ∀ b cs, W.z b = some cs → ∃ st ty, G[b]? = some (.cells st ty cs)
  zb : ∀ b b', W.r b = some b' → W.z b' = none
  zt : ∀ s t, W.t s = some t → W.z t.b = none
/-- A state of the one and one of the other. -/
structure SmF (W : Wd) (f : Fr) (H : Hp) (f' : Fr) (G : Hp) : Prop where
  fs : FS W f f'
  hs : Sm W H G
end Go.EV

/- The pure machine: how its worlds change. -/
namespace Go.EV

/-! ## Frozen values stay as they are -/
theorem VS.gfz {W W' : Wd} (hz : ∀ b c, W.z b = some c → W'.z b = some c) {v v' : AV} (h : VS W v v') : gf v = true → VS W' v v' := by
  induction h with
  | und v => intro g; cases g
  | eq v h => intro _; exact .eq v h
  | lnil => intro _; exact .lnil
  | lemp => intro _; exact .lemp
  | ownn s ty => intro g; cases g
  | owne s ty => intro g; cases g
  | zst es l b o cs hz0 hl hq he h ih => intro _; exact .zst es l b o cs (hz _ _ hz0) hl hq he fun i c j v v' e1 e2 e3 => ih i c j v v' e1 e2 e3 (gfL_at (hq c (List.mem_of_getElem? e1)) e2)
  | zptr cs0 o b d cs hz0 hl hq h ih => intro g; cases g
  | ptr b o b' h => intro g; cases g
  | own s t h hn => intro g; cases g
  | map b b' h => intro g; cases g
  | yld b b' h => intro g; cases g
  | fn k cs cs' hn h ih =>
    intro g
    simp only [gf, Bool.and_eq_true] at g
    rw [rgL_eq g.1 ⟨hn, h⟩]
    exact .eq _ (by simpa only [hf] using g.2)
  | iface t v v' h ih =>
    intro g
    simp only [gf, Bool.and_eq_true] at g
    rw [rg_eq g.1 h]
    exact .eq _ (by simpa only [hf] using g.2)
  | agg cs cs' hn h ih => intro g; exact .agg cs cs' hn fun i v v' e1 e2 => ih i v v' e1 e2 (gfL_at (by simpa only [gf] using g) e1)
  | tup cs cs' hn h ih => intro g; exact .tup cs cs' hn fun i v v' e1 e2 => ih i v v' e1 e2 (gfL_at (by simpa only [gf] using g) e1)
theorem TkOk.z {W W' : Wd} (hz : ∀ b c, W.z b = some c → W'.z b = some c) {G : Hp} {t : Tk} (h : TkOk W G t) : TkOk W' G t := by
  refine ⟨h.ne, h.gf, h.len, ?_⟩
  obtain ⟨cs, h1, h2, h3⟩ := h.at_
  exact ⟨cs, h1, h2, fun i c j v v' e1 e2 e3 => (h3 i c j v v' e1 e2 e3).gfz hz (gfL_at (h.gf c (List.mem_of_getElem? e1)) e2)⟩
theorem TkOk.heap {W : Wd} {G G' : Hp} {t : Tk} (h : TkOk W G t) (e : G'[t.b]? = G[t.b]?) : TkOk W G' t := by
  obtain ⟨cs, h1, h2⟩ := h.at_
  exact ⟨h.ne, h.gf, h.len, cs, by rw [e]; exact h1, h2⟩

/-! ## Worlds -/
theorem Sm.lt {W : Wd} {H G : Hp} (h : Sm W H G) {b b' : Nat} (e : W.r b = some b') : b < H.length ∧ b' < G.length := by
  obtain ⟨k, k', h1, h2, _⟩ := h.bx b b' e
  exact ⟨(List.getElem?_eq_some_iff.1 h1).1, (List.getElem?_eq_some_iff.1 h2).1⟩
theorem Sm.tlt {W : Wd} {H G : Hp} (h : Sm W H G) {s : Nat} {t : Tk} (e : W.t s = some t) : t.b < G.length := by
  obtain ⟨cs, h1, _⟩ := (h.tk s t e).at_
  exact (List.getElem?_eq_some_iff.1 h1).1
theorem Sm.zlt {W : Wd} {H G : Hp} (h : Sm W H G) {b : Nat} {cs : List AV} (e : W.z b = some cs) : b < G.length := by
  obtain ⟨st, ty, h1⟩ := h.rz b cs e
  exact (List.getElem?_eq_some_iff.1 h1).1
/-- More at the ends of both heaps. -/
theorem Sm.grow {W : Wd} {H G : Hp} (h : Sm W H G) (X Y : Hp) : Sm W (H ++ X) (G ++ Y) := by
  refine ⟨fun b b' e => ?_, h.bi, fun s t e => (h.tk s t e).heap ?_, h.ti, h.tb, fun b cs e => ?_, h.zb, h.zt⟩
  · obtain ⟨k, k', h1, h2, h3⟩ := h.bx b b' e
    exact ⟨k, k', at_elder h1, at_elder h2, h3⟩
  · rw [List.getElem?_append_left (h.tlt e)]
  · obtain ⟨st, ty, h1⟩ := h.rz b cs e
    exact ⟨st, ty, at_elder h1⟩
def Wd.newb (W : Wd) (b b' : Nat) : Wd := { W with r := fun x => if x = b then some b' else W.r x }
theorem Wd.newb_up {W : Wd} {b b' : Nat} (h : W.r b = none) : Up W (W.newb b b') :=
  ⟨fun x x' e => (by
    show (if x = b then some b' else W.r x) = some x'
    rw [if_neg (fun k => by subst k; rw [h] at e; cases e)]; exact e), fun _ _ e => e, fun _ _ e => e⟩
theorem Sm.nor {W : Wd} {H G : Hp} (h : Sm W H G) {b : Nat} (hb : H.length ≤ b) : W.r b = none := by
  cases e : W.r b with
  | none => rfl
  | some b' => have := (h.lt e).1; omega
theorem Sm.newb {W : Wd} {H G : Hp} (h : Sm W H G) {k k' : Blk} (hk : BS (W.newb H.length G.length) k k') : Sm (W.newb H.length G.length) (H ++ [k]) (G ++ [k']) := by
  have hu := W.newb_up (b' := G.length) (h.nor (Nat.le_refl _))
  have hr : ∀ b b', (W.newb H.length G.length).r b = some b' → (b = H.length ∧ b' = G.length) ∨ W.r b = some b' := fun b b' e => by
    have e : (if b = H.length then some G.length else W.r b) = some b' := e
    split at e
    · cases e; exact .inl ⟨‹_›, rfl⟩
    · exact .inr e
  refine ⟨fun b b' e => ?_, fun b c b' e1 e2 => ?_, fun s t e => ?_, h.ti, fun s t b b' e1 e2 => ?_, fun b cs e => ?_, fun b b' e => ?_, h.zt⟩
  · rcases hr b b' e with ⟨rfl, rfl⟩ | e
    · exact ⟨k, k', by simp, by simp, hk⟩
    · obtain ⟨q, q', h1, h2, h3⟩ := h.bx b b' e
      exact ⟨q, q', at_elder h1, at_elder h2, h3.up hu⟩
  · rcases hr b b' e1 with ⟨rfl, rfl⟩ | e1 <;> rcases hr c _ e2 with ⟨rfl, h2⟩ | e2
    · rfl
    · have := (h.lt e2).2; omega
    · subst h2; have := (h.lt e1).2; omega
    · exact h.bi b c b' e1 e2
  · exact TkOk.heap (G := G) (G' := G ++ [k']) (TkOk.z (W := W) (W' := W.newb H.length G.length) (fun _ _ e => e) (h.tk s t e)) (List.getElem?_append_left (h.tlt e))
  · rcases hr b b' e2 with ⟨rfl, rfl⟩ | e2
    · have := h.tlt e1; omega
    · exact h.tb s t b b' e1 e2
  · obtain ⟨st, ty, h1⟩ := h.rz b cs e
    exact ⟨st, ty, at_elder h1⟩
  · rcases hr b b' e with ⟨rfl, rfl⟩ | e
    · cases e2 : W.z G.length with
      | none => exact e2
      | some cs => have := h.zlt e2; omega
    · exact h.zb b b' e
/-- A box is written. -/
theorem Sm.setb {W : Wd} {H G : Hp} (h : Sm W H G) {b b' : Nat} (hb : W.r b = some b') {k k' : Blk} (hk : BS W k k') : Sm W (H.set b k) (G.set b' k') := by
  obtain ⟨h1, h2⟩ := h.lt hb
  refine ⟨fun c c' e => ?_, h.bi, fun s t e => (h.tk s t e).heap (List.getElem?_set_ne (h.tb s t b b' e hb)), h.ti, h.tb, fun c cs e => ?_, h.zb, h.zt⟩
  · by_cases ec : b = c
    · subst ec
      rw [hb] at e; cases e
      exact ⟨k, k', List.getElem?_set_self h1, List.getElem?_set_self h2, hk⟩
    · obtain ⟨q, q', e1, e2, e3⟩ := h.bx c c' e
      exact ⟨q, q', by rw [List.getElem?_set_ne ec]; exact e1, by rw [List.getElem?_set_ne (fun k => ec (h.bi b c b' hb (by rw [k]; exact e)))]; exact e2, e3⟩
  · obtain ⟨st, ty, h3⟩ := h.rz c cs e
    refine ⟨st, ty, ?_⟩
    rw [List.getElem?_set_ne (fun k => ?_)]
    · exact h3
    · subst k; rw [h.zb b b' hb] at e; cases e
/-- A block that nothing leads to is written. -/
def Wd.free (W : Wd) (b : Nat) : Prop := (∀ x, W.r x ≠ some b) ∧ (∀ s t, W.t s = some t → t.b ≠ b) ∧ W.z b = Option.none
theorem Sm.setf {W : Wd} {H G : Hp} (h : Sm W H G) {b : Nat} (hb : W.free b) (k : Blk) : Sm W H (G.set b k) := by
  refine ⟨fun c c' e => ?_, h.bi, fun s t e => (h.tk s t e).heap (List.getElem?_set_ne fun q => hb.2.1 s t e q.symm), h.ti, h.tb, fun c cs e => ?_, h.zb, h.zt⟩
  · obtain ⟨q, q', e1, e2, e3⟩ := h.bx c c' e
    exact ⟨q, q', e1, by rw [List.getElem?_set_ne (fun k => hb.1 c (by rw [k]; exact e))]; exact e2, e3⟩
  · obtain ⟨st, ty, h3⟩ := h.rz c cs e
    refine ⟨st, ty, ?_⟩
    rw [List.getElem?_set_ne (fun k => by subst k; rw [hb.2.2] at e; cases e)]
    exact h3
/-- Some slices grow no more: dropped, or frozen. -/
theorem Sm.sub {W W' : Wd} {g : Nat → Nat → List (List AV) → AV} (hg : Goes W W' g) {H G : Hp} (h : Sm W H G) (hr : ∀ b, W'.r b = W.r b) (ht : ∀ s t, W'.t s = some t → W.t s = some t)
    (hz : ∀ b c, W'.z b = some c → W.z b = some c ∨ ∃ s t, W.t s = some t ∧ t.b = b ∧ W'.t s = Option.none ∧ ∃ st ty, G[b]? = some (.cells st ty c)) : Sm W' (mtH g H) G := by
  refine ⟨fun b b' e => ?_, fun b c b' e1 e2 => h.bi b c b' (by rw [← hr]; exact e1) (by rw [← hr]; exact e2), fun s t e => (h.tk s t (ht s t e)).z hg.z, fun s s' t t' e1 e2 => h.ti s s' t t' (ht s t e1) (ht s' t' e2), fun s t b b' e1 e2 => h.tb s t b b' (ht s t e1) (by rw [← hr]; exact e2), fun b c e => ?_, fun b b' e => ?_, fun s t e => ?_⟩
  · rw [hr] at e
    obtain ⟨k, k', h1, h2, h3⟩ := h.bx b b' e
    exact ⟨mtB g k, k', by rw [mtH_map, List.getElem?_map, h1]; rfl, h2, h3.go hg⟩
  · rcases hz b c e with e | ⟨s, t, _, _, _, q⟩
    · exact h.rz b c e
    · exact q
  · rw [hr] at e
    cases e2 : W'.z b' with
    | none => rfl
    | some c =>
      rcases hz b' c e2 with e3 | ⟨s, t, e3, rfl, _⟩
      · rw [h.zb b b' e] at e3; cases e3
      · exact absurd rfl (h.tb s t b _ e3 e)
  · cases e2 : W'.z t.b with
    | none => rfl
    | some c =>
      rcases hz t.b c e2 with e3 | ⟨s1, t1, e3, e4, e5, _⟩
      · rw [h.zt s t (ht s t e)] at e3; cases e3
      · rw [h.ti s1 s t1 t e3 (ht s t e) e4] at e5
        rw [e] at e5; cases e5
/-- A slice is told no more. -/
def klS (k s ty : Nat) (l : List (List AV)) : AV := bif Nat.beq s k then .und else .own s ty l
def Wd.kill (W : Wd) (k : Nat) : Wd := { W with t := fun s => if s = k then Option.none else W.t s }
theorem Wd.kill_t {W : Wd} {k s : Nat} {t : Tk} (h : (W.kill k).t s = some t) : s ≠ k ∧ W.t s = some t := by
  have h : (if s = k then Option.none else W.t s) = some t := h
  split at h
  · cases h
  · exact ⟨‹_›, h⟩
theorem kill_goes (W : Wd) (k : Nat) : Goes W (W.kill k) (klS k) := by
  refine ⟨fun _ _ e => e, fun _ _ e => e, fun s ty => ?_, fun s t e hn => ?_⟩
  · unfold klS
    cases Nat.beq s k with
    | true => exact ⟨.und _, .und _⟩
    | false => exact ⟨.ownn s ty, .owne s ty⟩
  · unfold klS
    cases q : Nat.beq s k with
    | true => exact .und _
    | false =>
      refine .own s t ?_ hn
      show (if s = k then Option.none else W.t s) = some t
      rw [if_neg (fun k => by subst k; simp at q)]; exact e
theorem Sm.kill {W : Wd} {H G : Hp} (h : Sm W H G) (k : Nat) : Sm (W.kill k) (mtH (klS k) H) G :=
  h.sub (kill_goes W k) (fun _ => rfl) (fun _ _ e => (Wd.kill_t e).2) fun _ _ e => .inl e
theorem Wd.kill_free {W : Wd} {H G : Hp} (h : Sm W H G) {s : Nat} {t : Tk} (e : W.t s = some t) : (W.kill s).free t.b :=
  ⟨fun x q => h.tb s t x t.b e q rfl, fun s' t' e' q => by
    obtain ⟨h1, h2⟩ := Wd.kill_t e'
    exact h1 (h.ti s' s t' t h2 e q), h.zt s t e⟩
/-- Slices are frozen. -/
def rtS (S : Nat → Bool) (s ty : Nat) (l : List (List AV)) : AV := bif S s then .lst l else .own s ty l
def cellsAt (G : Hp) (b : Nat) : List AV := match G[b]? with | some (.cells _ _ cs) => cs | _ => []
open Classical in
noncomputable def Wd.ret (W : Wd) (S : Nat → Bool) (G : Hp) : Wd :=
  { r := W.r, t := fun s => bif S s then Option.none else W.t s, z := fun b => if ∃ s t, S s = true ∧ W.t s = some t ∧ t.b = b then some (cellsAt G b) else W.z b }
theorem Wd.ret_z {W : Wd} {S : Nat → Bool} {H G : Hp} (h : Sm W H G) : (∀ b c, W.z b = some c → (W.ret S G).z b = some c) ∧ ∀ s t, S s = true → W.t s = some t → (W.ret S G).z t.b = some (cellsAt G t.b) := by
  refine ⟨fun b c e => ?_, fun s t e1 e2 => ?_⟩
  · unfold Wd.ret
    simp only
    rw [if_neg]
    · exact e
    · rintro ⟨s, t, _, e2, rfl⟩
      rw [h.zt s t e2] at e; cases e
  · unfold Wd.ret
    simp only
    rw [if_pos ⟨s, t, e1, e2, rfl⟩]
theorem TkOk.zst {W W' : Wd} {G : Hp} {t : Tk} (h : TkOk W G t) (hz : ∀ b c, W.z b = some c → W'.z b = some c) (e : W'.z t.b = some (cellsAt G t.b)) : VS W' (.lst t.l) (.sl t.es t.b 0 t.l.length) := by
  obtain ⟨cs, h1, h2, h3⟩ := h.at_
  have hc : cellsAt G t.b = cs := by unfold cellsAt; rw [h1]
  rw [hc] at e
  exact .zst t.es t.l t.b 0 cs e (by omega) h.gf h.len fun i c j v v' e1 e2 e3 => (h3 i c j v v' e1 e2 (by simpa using e3)).gfz hz (gfL_at (h.gf c (List.mem_of_getElem? e1)) e2)
theorem ret_goes {W : Wd} {H G : Hp} (h : Sm W H G) (S : Nat → Bool) : Goes W (W.ret S G) (rtS S) := by
  obtain ⟨hz1, hz2⟩ := Wd.ret_z (S := S) h
  refine ⟨fun _ _ e => e, hz1, fun s ty => ?_, fun s t e hn => ?_⟩
  · unfold rtS
    cases S s with
    | true => exact ⟨.lnil, .lemp⟩
    | false => exact ⟨.ownn s ty, .owne s ty⟩
  · unfold rtS
    cases q : S s with
    | true => exact (h.tk s t e).zst hz1 (hz2 s t q e)
    | false =>
      refine .own s t ?_ hn
      show (bif S s then Option.none else W.t s) = some t
      rw [q]; exact e
theorem Sm.ret {W : Wd} {H G : Hp} (h : Sm W H G) (S : Nat → Bool) : Sm (W.ret S G) (mtH (rtS S) H) G := by
  refine h.sub (ret_goes h S) (fun _ => rfl) (fun s t e => ?_) fun b c e => ?_
  · have e : (bif S s then Option.none else W.t s) = some t := e
    cases q : S s with
    | true => rw [q] at e; cases e
    | false => rw [q] at e; exact e
  · unfold Wd.ret at e
    simp only at e
    split at e
    · rename_i hex
      obtain ⟨s, t, h1, h2, rfl⟩ := hex
      cases e
      refine .inr ⟨s, t, h2, rfl, ?_, ?_⟩
      · show (bif S s then Option.none else W.t s) = Option.none
        rw [h1]; rfl
      · obtain ⟨cs, q1, _⟩ := (h.tk s t h2).at_
        exact ⟨1, t.ty, by unfold cellsAt; rw [q1]⟩
    · exact .inl e
/-- A slice begins to grow. -/
def Wd.newt (W : Wd) (s : Nat) (t : Tk) : Wd := { W with t := fun x => if x = s then some t else W.t x }
theorem Wd.newt_up {W : Wd} {s : Nat} {t : Tk} (h : W.t s = none) : Up W (W.newt s t) :=
  ⟨fun _ _ e => e, fun _ _ e => e, fun x x' e => (by
    show (if x = s then some t else W.t x) = some x'
    rw [if_neg (fun k => by subst k; rw [h] at e; cases e)]; exact e)⟩
theorem Sm.newt {W : Wd} {H G : Hp} (h : Sm W H G) {s : Nat} {t : Tk} (hn : W.t s = none) (hf : W.free t.b) (ht : TkOk W G t) : Sm (W.newt s t) H G := by
  have hr : ∀ x x', (W.newt s t).t x = some x' → (x = s ∧ x' = t) ∨ (x ≠ s ∧ W.t x = some x') := fun x x' e => by
    have e : (if x = s then some t else W.t x) = some x' := e
    split at e
    · cases e; exact .inl ⟨‹_›, rfl⟩
    · exact .inr ⟨‹_›, e⟩
  have hu := Wd.newt_up (t := t) hn
  refine ⟨fun b b' e => ?_, h.bi, fun x x' e => ?_, fun x y x' y' e1 e2 q => ?_, fun x x' b b' e1 e2 => ?_, h.rz, h.zb, fun x x' e => ?_⟩
  · obtain ⟨k, k', h1, h2, h3⟩ := h.bx b b' e
    exact ⟨k, k', h1, h2, h3.up hu⟩
  · rcases hr x x' e with ⟨rfl, rfl⟩ | ⟨_, e⟩
    · exact TkOk.z (W := W) (W' := W.newt x x') (fun _ _ e => e) ht
    · exact TkOk.z (W := W) (W' := W.newt s t) (fun _ _ e => e) (h.tk x x' e)
  · rcases hr x x' e1 with ⟨hx, hx'⟩ | ⟨_, e3⟩ <;> rcases hr y y' e2 with ⟨hy, hy'⟩ | ⟨_, e4⟩
    · rw [hx, hy]
    · rw [hx'] at q; exact absurd q.symm (hf.2.1 y y' e4)
    · rw [hy'] at q; exact absurd q (hf.2.1 x x' e3)
    · exact h.ti x y x' y' e3 e4 q
  · rcases hr x x' e1 with ⟨rfl, rfl⟩ | ⟨_, e1⟩
    · exact fun k => hf.1 b (by rw [← k]; exact e2)
    · exact h.tb x x' b b' e1 e2
  · rcases hr x x' e with ⟨rfl, rfl⟩ | ⟨_, e⟩
    · exact hf.2.2
    · exact h.zt x x' e
/-- The block behind the end is free. -/
theorem Sm.end_free {W : Wd} {H G : Hp} (h : Sm W H G) {b : Nat} (hb : G.length ≤ b) : W.free b :=
  ⟨fun x e => by have := (h.lt e).2; omega, fun s t e q => by have := h.tlt e; omega, by
    cases e : W.z b with
    | none => rfl
    | some c => have := h.zlt e; omega⟩
/-- Boxes behind a place are forgotten. -/
def Wd.cut (W : Wd) (n : Nat) : Wd := { W with r := fun b => if b < n then W.r b else none }
theorem Wd.cut_r {W : Wd} {n b b' : Nat} (h : (W.cut n).r b = some b') : b < n ∧ W.r b = some b' := by
  have h : (if b < n then W.r b else none) = some b' := h
  split at h
  · exact ⟨‹_›, h⟩
  · cases h
mutual
/-- Behind a place nothing is led to: such values are told no more. -/
def cutV (n : Nat) : AV → AV
  | .ptr b o => bif Nat.blt b n then .ptr b o else .und
  | .map b => bif Nat.blt b n then .map b else .und
  | .yld b => bif Nat.blt b n then .yld b else .und
  | .fn k cs => .fn k (cutL n cs)
  | .iface t v => .iface t (cutV n v)
  | .agg cs => .agg (cutL n cs)
  | .tup cs => .tup (cutL n cs)
  | v => v
def cutL (n : Nat) : List AV → List AV
  | [] => []
  | v :: r => cutV n v :: cutL n r
end
theorem cutL_map {n : Nat} : ∀ l, cutL n l = l.map (cutV n)
  | [] => rfl
  | v :: r => by rw [cutL, cutL_map r]; rfl
mutual
theorem cut_hf {n : Nat} : ∀ {v : AV}, hf v = true → cutV n v = v
  | .und, _ => rfl
  | .bool _, _ => rfl
  | .int _ _, _ => rfl
  | .str _, _ => rfl
  | .nilp, _ => rfl
  | .ptr _ _, h => by cases h
  | .cptr _ _, _ => rfl
  | .nils, _ => rfl
  | .emp, _ => rfl
  | .lst _, _ => rfl
  | .sl _ _ _ _, _ => rfl
  | .nilm, _ => rfl
  | .map _, h => by cases h
  | .nilf, _ => rfl
  | .fn k cs, h => by simp only [hf] at h; simp only [cutV, cutL_hf h]
  | .yld _, h => by cases h
  | .nili, _ => rfl
  | .iface t v, h => by simp only [hf] at h; simp only [cutV, cut_hf h]
  | .err, _ => rfl
  | .agg cs, h => by simp only [hf] at h; simp only [cutV, cutL_hf h]
  | .tup cs, h => by simp only [hf] at h; simp only [cutV, cutL_hf h]
  | .own _ _ _, h => by cases h
theorem cutL_hf {n : Nat} : ∀ {cs : List AV}, hfL cs = true → cutL n cs = cs
  | [], _ => rfl
  | v :: r, h => by
    simp only [hfL, Bool.and_eq_true] at h
    simp only [cutL, cut_hf h.1, cutL_hf h.2]
end
theorem VS.cut {W : Wd} {n : Nat} {v v' : AV} (h : VS W v v') : VS (W.cut n) (cutV n v) v' := by
  have hr : ∀ {b b'}, W.r b = some b' → b < n → (W.cut n).r b = some b' := fun {b b'} e hb => by
    show (if b < n then W.r b else none) = some b'
    rw [if_pos hb]; exact e
  induction h with
  | und v => exact .und v
  | eq v h => rw [cut_hf h]; exact .eq v h
  | lnil => exact .lnil
  | lemp => exact .lemp
  | ownn s ty => exact .ownn s ty
  | owne s ty => exact .owne s ty
  | zst es l b o cs hz hl hq he h ih =>
    exact .zst es l b o cs hz hl hq he fun i c j v v' e1 e2 e3 => (h i c j v v' e1 e2 e3).gfz (W := W) (W' := W.cut n) (fun _ _ e => e) (gfL_at (hq c (List.mem_of_getElem? e1)) e2)
  | zptr cs0 o b d cs hz hl hq h ih =>
    exact .zptr cs0 o b d cs hz hl hq fun i v v' e1 e2 => (h i v v' e1 e2).gfz (W := W) (W' := W.cut n) (fun _ _ e => e) (gfL_at hq e1)
  | ptr b o b' h =>
    simp only [cutV]
    cases e : Nat.blt b n with
    | true => exact .ptr b o b' (hr h (by simpa using e))
    | false => exact .und _
  | own s t h hn => exact .own s t h hn
  | map b b' h =>
    simp only [cutV]
    cases e : Nat.blt b n with
    | true => exact .map b b' (hr h (by simpa using e))
    | false => exact .und _
  | yld b b' h =>
    simp only [cutV]
    cases e : Nat.blt b n with
    | true => exact .yld b b' (hr h (by simpa using e))
    | false => exact .und _
  | fn k cs cs' hn h ih =>
    simp only [cutV]
    refine .fn k _ cs' (by rw [cutL_map, List.length_map]; exact hn) fun i v v' e1 e2 => ?_
    rw [cutL_map, List.getElem?_map] at e1
    obtain ⟨x, hx, rfl⟩ := Option.map_eq_some_iff.1 e1
    exact ih i x v' hx e2
  | iface t v v' h ih => exact .iface t _ _ ih
  | agg cs cs' hn h ih =>
    simp only [cutV]
    refine .agg _ cs' (by rw [cutL_map, List.length_map]; exact hn) fun i v v' e1 e2 => ?_
    rw [cutL_map, List.getElem?_map] at e1
    obtain ⟨x, hx, rfl⟩ := Option.map_eq_some_iff.1 e1
    exact ih i x v' hx e2
  | tup cs cs' hn h ih =>
    simp only [cutV]
    refine .tup _ cs' (by rw [cutL_map, List.length_map]; exact hn) fun i v v' e1 e2 => ?_
    rw [cutL_map, List.getElem?_map] at e1
    obtain ⟨x, hx, rfl⟩ := Option.map_eq_some_iff.1 e1
    exact ih i x v' hx e2
theorem VSL.cut {W : Wd} {n : Nat} {cs cs' : List AV} (h : VSL W cs cs') : VSL (W.cut n) (cutL n cs) cs' :=
  ⟨by rw [cutL_map, List.length_map]; exact h.1, fun i v v' e1 e2 => by
    rw [cutL_map, List.getElem?_map] at e1
    obtain ⟨x, hx, rfl⟩ := Option.map_eq_some_iff.1 e1
    exact (h.2 i x v' hx e2).cut⟩
def cutF (n : Nat) : Fr → Fr
  | .leaf => .leaf
  | .node l x r => .node (cutF n l) (cutV n x) (cutF n r)
theorem cutF_get {n : Nat} : ∀ (p : Pth) (f : Fr), (cutF n f).get p = (f.get p).map (cutV n)
  | .h, .leaf => rfl
  | .l p, .leaf => rfl
  | .r p, .leaf => rfl
  | .h, .node _ _ _ => rfl
  | .l p, .node l _ _ => cutF_get p l
  | .r p, .node _ _ r => cutF_get p r
theorem FS.cut {W : Wd} {n : Nat} {f f' : Fr} (h : FS W f f') : FS (W.cut n) (cutF n f) f' := fun p v e => by
  rw [cutF_get] at e
  obtain ⟨x, hx, rfl⟩ := Option.map_eq_some_iff.1 e
  obtain ⟨v', a, b⟩ := h p x hx
  exact ⟨v', a, b.cut⟩
def cutE (n : Nat) : List (AV × AV) → List (AV × AV)
  | [] => []
  | (k, v) :: r => (cutV n k, cutV n v) :: cutE n r
theorem cutE_map {n : Nat} : ∀ l, cutE n l = l.map fun p => (cutV n p.1, cutV n p.2)
  | [] => rfl
  | (k, v) :: r => by rw [cutE, cutE_map r]; rfl
def cutB (n : Nat) : Blk → Blk
  | .cells st ty cs => .cells st ty (cutL n cs)
  | .dead => .dead
  | .map es => .map (cutE n es)
  | .loop st e f ps a b => .loop st e (cutF n f) ps a b
def cutH (n : Nat) : Nat → Hp → Hp
  | 0, _ => []
  | _ + 1, [] => []
  | m + 1, b :: r => cutB n b :: cutH n m r
theorem cutH_get {n : Nat} : ∀ (m : Nat) (H : Hp) (i : Nat), i < m → (cutH n m H)[i]? = H[i]?.map (cutB n)
  | 0, _, i, h => by omega
  | m + 1, [], i, _ => by simp [cutH]
  | m + 1, b :: r, 0, _ => rfl
  | m + 1, b :: r, i + 1, h => by
    have := cutH_get (n := n) m r i (by omega)
    simpa [cutH] using this
theorem Sm.cut {W : Wd} {H G : Hp} (h : Sm W H G) (n : Nat) : Sm (W.cut n) (cutH n n H) G := by
  refine ⟨fun b b' e => ?_, fun b c b' e1 e2 => h.bi b c b' (Wd.cut_r e1).2 (Wd.cut_r e2).2, fun s t e => TkOk.z (W := W) (W' := W.cut n) (fun _ _ e => e) (h.tk s t e), h.ti, fun s t b b' e1 e2 => h.tb s t b b' e1 (Wd.cut_r e2).2, h.rz, fun b b' e => h.zb b b' (Wd.cut_r e).2, h.zt⟩
  obtain ⟨hb, e⟩ := Wd.cut_r e
  obtain ⟨k, k', h1, h2, h3⟩ := h.bx b b' e
  refine ⟨cutB n k, k', by rw [cutH_get n H b hb, h1]; rfl, h2, ?_⟩
  cases h3 with
  | dead k => exact .dead _
  | cells ty cs cs' h => exact .cells ty _ cs' h.cut
  | map es es' hn h =>
    refine .map _ es' (by rw [cutE_map, List.length_map]; exact hn) fun i k v k' v' a b => ?_
    rw [cutE_map, List.getElem?_map] at a
    obtain ⟨⟨x, y⟩, hx, he⟩ := Option.map_eq_some_iff.1 a
    simp only [Prod.mk.injEq] at he
    obtain ⟨rfl, rfl⟩ := he
    exact ⟨(h i x y k' v' hx b).1.cut, (h i x y k' v' hx b).2.cut⟩
  | loop st e f f' ps a b h => exact .loop st e _ f' ps a b h.cut
/-- What nothing leads to stays so, and stays as it is. -/
def Fre (W : Wd) (G : Hp) (W' : Wd) (G1 : Hp) : Prop := ∀ b, b < G.length → W.free b → W'.free b ∧ G1[b]? = G[b]?
theorem Fre.refl (W : Wd) (G : Hp) : Fre W G W G := fun _ _ h => ⟨h, rfl⟩
theorem Fre.trans {W W1 W2 : Wd} {G G1 G2 : Hp} (h : Fre W G W1 G1) (hl : G.length ≤ G1.length) (k : Fre W1 G1 W2 G2) : Fre W G W2 G2 := fun b hb hf => by
  obtain ⟨h1, h2⟩ := h b hb hf
  obtain ⟨k1, k2⟩ := k b (by omega) h1
  exact ⟨k1, k2.trans h2⟩
theorem Wd.newb_free {W : Wd} {b b' c : Nat} (h : W.free c) (hc : c ≠ b') : (W.newb b b').free c :=
  ⟨fun x e => by
    have e : (if x = b then some b' else W.r x) = some c := e
    split at e
    · cases e; exact hc rfl
    · exact h.1 x e, h.2.1, h.2.2⟩
theorem Wd.newt_free {W : Wd} {s c : Nat} {t : Tk} (h : W.free c) (hc : t.b ≠ c) : (W.newt s t).free c :=
  ⟨h.1, fun x x' e => by
    have e : (if x = s then some t else W.t x) = some x' := e
    split at e
    · cases e; exact hc
    · exact h.2.1 x x' e, h.2.2⟩
theorem Wd.kill_free0 {W : Wd} {s c : Nat} (h : W.free c) : (W.kill s).free c := ⟨h.1, fun x x' e => h.2.1 x x' (Wd.kill_t e).2, h.2.2⟩
theorem Wd.cut_free {W : Wd} {n c : Nat} (h : W.free c) : (W.cut n).free c := ⟨fun x e => h.1 x (Wd.cut_r e).2, h.2.1, h.2.2⟩
theorem Wd.ret_free {W : Wd} {S : Nat → Bool} {G : Hp} {c : Nat} (h : W.free c) : (W.ret S G).free c := by
  refine ⟨h.1, fun x x' e => ?_, ?_⟩
  · have e : (bif S x then Option.none else W.t x) = some x' := e
    cases q : S x with
    | true => rw [q] at e; cases e
    | false => rw [q] at e; exact h.2.1 x x' e
  · unfold Wd.ret
    simp only
    rw [if_neg]
    · exact h.2.2
    · rintro ⟨s, t, _, e2, e3⟩
      exact h.2.1 s t e2 e3
end Go.EV

/- The pure machine: single operations. -/
namespace Go.EV

def cxOk : CX → Bool
  | .t _ => true
  | .c v => hf v
def cxsOk (l : List CX) : Bool := l.all cxOk
def cxO : Option CX → Bool
  | none => true
  | some x => cxOk x
theorem cx_rel {W : Wd} {f f' : Fr} (h : FS W f f') {x : CX} (hx : cxOk x = true) : VS W (x.ev f) (x.ev f') := by
  cases x with
  | c v => exact .eq v hx
  | t p =>
    simp only [CX.ev]
    cases e : f.get p with
    | none => exact .und _
    | some v =>
      obtain ⟨v', h1, h2⟩ := h p v e
      simp only [h1]; exact h2
theorem cxs_rel {W : Wd} {f f' : Fr} (h : FS W f f') : ∀ {l : List CX}, cxsOk l = true → VSL W (l.map (·.ev f)) (l.map (·.ev f'))
  | [], _ => .nil
  | x :: r, hx => by
    simp only [cxsOk, List.all_cons, Bool.and_eq_true] at hx
    exact .cons (cx_rel h hx.1) (cxs_rel h hx.2)
theorem VS.int_inv {W : Wd} {k : IntKind} {n : Int} {v' : AV} (h : VS W (.int k n) v') : v' = .int k n := rg_eq rfl h
theorem VS.bool_inv {W : Wd} {n : Bool} {v' : AV} (h : VS W (.bool n) v') : v' = .bool n := rg_eq rfl h
theorem VS.str_inv {W : Wd} {n : List Nat} {v' : AV} (h : VS W (.str n) v') : v' = .str n := rg_eq rfl h
theorem VS.no_sl {W : Wd} {es b o n : Nat} {v' : AV} (h : VS W (.sl es b o n) v') : False := by
  cases h with
  | eq _ h => cases h

/-! ## Parts of values -/
theorem ldc_sim {W : Wd} {cs cs' : List AV} (h : VSL W cs cs') {o n : Nat} {ag : Bool} {v : AV} (e : ldc cs o n ag = some v) : ∃ v', ldc cs' o n ag = some v' ∧ VS W v v' := by
  cases ag with
  | true =>
    simp only [ldc] at e ⊢
    split at e
    · rename_i hl
      cases e
      rw [if_pos (by rw [← h.1]; exact hl)]
      exact ⟨_, rfl, .agg _ _ ((h.drop o).take n).1 ((h.drop o).take n).2⟩
    · cases e
  | false => exact h.at e
theorem stc_sim {W : Wd} {cs cs' vs vs' : List AV} (h : VSL W cs cs') (k : VSL W vs vs') (o : Nat) : VSL W (stc cs o vs) (stc cs' o vs') := by
  unfold stc
  rw [← k.1]
  exact (h.take o).app (k.app (h.drop _))
theorem evBuild_sim {W : Wd} {f f' : Fr} (h : FS W f f') : ∀ {ps : List (Nat × Nat × CX)} {cs cs' r : List AV}, (ps.all fun p => cxOk p.2.2) = true → VSL W cs cs' → evBuild f ps cs = some r → ∃ r', evBuild f' ps cs' = some r' ∧ VSL W r r'
  | [], cs, cs', r, _, k, e => by
    simp only [evBuild, Option.some.injEq] at e
    subst e
    exact ⟨cs', rfl, k⟩
  | (off, n, x) :: ps, cs, cs', r, hp, k, e => by
    simp only [List.all_cons, Bool.and_eq_true] at hp
    simp only [evBuild] at e ⊢
    split at e
    · rename_i cs1 h1
      unfold putPart at h1
      split at h1
      · rename_i hc
        cases h1
        obtain ⟨q1, q2⟩ := (cx_rel h hp.1).cells hc.2.2
        unfold putPart
        rw [if_pos ⟨by rw [← q1.1]; exact hc.1, by rw [← k.1]; exact hc.2.1, q2⟩]
        exact evBuild_sim h hp.2 (stc_sim k q1 off) e
      · cases h1
    · cases e
theorem evBuildS_sim {W : Wd} {f f' : Fr} {es : Nat} (h : FS W f f') : ∀ {ps : List (Nat × CX)} {cs cs' r : List AV}, (ps.all fun p => cxOk p.2) = true → VSL W cs cs' → evBuildS f es ps cs = some r → ∃ r', evBuildS f' es ps cs' = some r' ∧ VSL W r r'
  | [], cs, cs', r, _, k, e => by
    simp only [evBuildS, Option.some.injEq] at e
    subst e
    exact ⟨cs', rfl, k⟩
  | (i, x) :: ps, cs, cs', r, hp, k, e => by
    simp only [List.all_cons, Bool.and_eq_true] at hp
    simp only [evBuildS] at e ⊢
    split at e
    · rename_i cs1 h1
      unfold putPart at h1
      split at h1
      · rename_i hc
        cases h1
        obtain ⟨q1, q2⟩ := (cx_rel h hp.1).cells hc.2.2
        unfold putPart
        rw [if_pos ⟨by rw [← q1.1]; exact hc.1, by rw [← k.1]; exact hc.2.1, q2⟩]
        exact evBuildS_sim h hp.2 (stc_sim k q1 (i * es)) e
      · cases h1
    · cases e
theorem rep_sim {W : Wd} {z : List AV} (h : VSL W z z) : ∀ n, VSL W (rep z n) (rep z n)
  | 0 => .nil
  | n + 1 => h.app (rep_sim h n)
/-- The cells that a pointer leads to. -/
theorem evLoad_sim {W : Wd} {H G : Hp} (hs : Sm W H G) {x x' : AV} (h : VS W x x') {n : Nat} {ag : Bool} {v : AV} (e : evLoad H n ag x = some v) (hv : (∃ cs o, x = .cptr cs o) → hf v = true) : ∃ v', evLoad G n ag x' = some v' ∧ VS W v v' := by
  cases x with
  | ptr b o =>
    obtain ⟨b', rfl, hb⟩ := h.ptr_inv
    obtain ⟨k, k', h1, h2, h3⟩ := hs.bx b b' hb
    simp only [evLoad, h1] at e
    split at e
    · rename_i st ty cs hk
      cases hk
      cases h3 with
      | cells _ _ cs' h4 =>
        obtain ⟨v', q1, q2⟩ := ldc_sim h4 e
        exact ⟨v', by simp only [evLoad, h2]; exact q1, q2⟩
    · cases e
  | cptr cs o =>
    simp only [evLoad] at e
    have hq := hv ⟨cs, o, rfl⟩
    cases h with
    | eq _ _ => exact ⟨v, e, .eq v hq⟩
    | zptr _ _ b d cs' hz hl hg hh =>
      obtain ⟨st, ty, hb⟩ := hs.rz b cs' hz
      simp only [evLoad, hb]
      cases ag with
      | true =>
        simp only [ldc] at e ⊢
        split at e
        · rename_i hle
          cases e
          rw [if_pos (by omega)]
          refine ⟨_, rfl, .agg _ _ (by simp; omega) fun i a b e1 e2 => ?_⟩
          rw [List.getElem?_take] at e1 e2
          split at e1
          · rename_i hi
            rw [if_pos hi] at e2
            rw [List.getElem?_drop] at e1 e2
            exact hh (o + i) a b e1 (by rw [← e2]; congr 1; omega)
          · cases e1
        · cases e
      | false =>
        simp only [ldc] at e ⊢
        have hlt : d + o < cs'.length := by have := (List.getElem?_eq_some_iff.1 e).1; omega
        exact ⟨_, List.getElem?_eq_getElem hlt, hh o v _ e (List.getElem?_eq_getElem hlt)⟩
  | _ => cases e
theorem eqCells_rg : ∀ {l : List FK} {x y : List AV} {r : Bool}, eqCells l x y = some r → rgL x = true ∧ rgL y = true
  | [], [], [], _, _ => ⟨rfl, rfl⟩
  | .i :: l, .int k a :: x, .int k' b :: y, r, h => by
    simp only [eqCells] at h
    split at h
    · obtain ⟨q, hq, _⟩ := Option.map_eq_some_iff.1 h
      have := eqCells_rg hq
      simp only [rgL, rg, Bool.true_and]; exact this
    · cases h
  | .b :: l, .bool a :: x, .bool b :: y, r, h => by
    simp only [eqCells] at h
    obtain ⟨q, hq, _⟩ := Option.map_eq_some_iff.1 h
    have := eqCells_rg hq
    simp only [rgL, rg, Bool.true_and]; exact this
  | .s :: l, .str a :: x, .str b :: y, r, h => by
    simp only [eqCells] at h
    obtain ⟨q, hq, _⟩ := Option.map_eq_some_iff.1 h
    have := eqCells_rg hq
    simp only [rgL, rg, Bool.true_and]; exact this
theorem evEq_sim {W : Wd} {k : EqK} {x y x' y' : AV} (hx : VS W x x') (hy : VS W y y') {r : Bool} (e : evEq k x y = some r) : evEq k x' y' = some r := by
  cases k with
  | num => cases x <;> cases y <;> cases e
  | bool =>
    cases x <;> cases y <;> first | (cases e; done) | skip
    rw [hx.bool_inv, hy.bool_inv]; exact e
  | ptr =>
    cases x <;> cases y <;> first | (cases e; done) | skip
    all_goals (cases hx <;> cases hy <;> exact e)
  | slice =>
    cases x with
    | nils => cases y with
      | lst l => cases l with
        | nil => cases e
        | cons c r => cases hx; cases hy <;> exact e
      | sl _ _ _ _ => exact absurd hy.no_sl id
      | nils => cases hx; cases hy; exact e
      | emp => cases hx; cases hy; exact e
      | _ => cases e
    | emp => cases y with
      | nils => cases hx; cases hy; exact e
      | _ => cases e
    | lst l => cases l with
      | nil => cases y <;> cases e
      | cons c r => cases y with
        | nils => cases hy; cases hx <;> exact e
        | _ => cases e
    | sl _ _ _ _ => exact absurd hx.no_sl id
    | _ => cases y <;> cases e
  | iface =>
    cases x <;> cases y <;> first | (cases e; done) | skip
    all_goals (cases hx <;> cases hy <;> exact e)
  | cells l =>
    cases x <;> cases y <;> first | (cases e; done) | skip
    simp only [evEq] at e
    obtain ⟨h1, h2⟩ := eqCells_rg e
    rw [rg_eq (by simpa only [rg] using h1) hx, rg_eq (by simpa only [rg] using h2) hy]
    exact e
def eqOp (o : BinOp) (r : Option Bool) : Option AV := match o with
  | .eql => r.map .bool
  | .neq => r.map fun b => .bool (!b)
  | _ => none
theorem evBin_oth {o : BinOp} {k : EqK} {x y : AV} (n1 : ∀ q a q' b, x = .int q a → y = .int q' b → False) (n2 : ∀ a b, x = .str a → y = .str b → False) : evBin o k x y = eqOp o (evEq k x y) := by
  unfold evBin
  split
  · exact (n1 _ _ _ _ rfl rfl).elim
  · exact (n2 _ _ rfl rfl).elim
  · rfl
theorem eqOp_some {o : BinOp} {r : Option Bool} {v : AV} (h : eqOp o r = some v) : ∃ b, r = some b ∧ rg v = true := by
  unfold eqOp at h
  split at h
  · obtain ⟨b, hb, rfl⟩ := Option.map_eq_some_iff.1 h; exact ⟨b, hb, rfl⟩
  · obtain ⟨b, hb, rfl⟩ := Option.map_eq_some_iff.1 h; exact ⟨b, hb, rfl⟩
  · cases h
theorem evBin_sim {W : Wd} {o : BinOp} {k : EqK} {x y x' y' : AV} (hx : VS W x x') (hy : VS W y y') {v : AV} (e : evBin o k x y = some v) : evBin o k x' y' = some v ∧ rg v = true := by
  have other : (∀ q a q' b, x = .int q a → y = .int q' b → False) → (∀ a b, x = .str a → y = .str b → False) → evBin o k x' y' = some v ∧ rg v = true := by
    intro n1 n2
    rw [evBin_oth n1 n2] at e
    obtain ⟨r, hr, hv⟩ := eqOp_some e
    refine ⟨?_, hv⟩
    have h2 := evEq_sim hx hy hr
    rw [hr] at e
    rw [evBin_oth, h2]
    · exact e
    · rintro q a q' b rfl rfl
      cases hx with
      | eq _ _ => cases hy with
        | eq _ _ => exact n1 _ _ _ _ rfl rfl
        | und _ => cases k <;> cases hr
      | und _ => cases k <;> cases y <;> cases hr
    · rintro a b rfl rfl
      cases hx with
      | eq _ _ => cases hy with
        | eq _ _ => exact n2 _ _ rfl rfl
        | und _ => cases k <;> cases hr
      | und _ => cases k <;> cases y <;> cases hr
  cases x with
  | int q a =>
    cases y with
    | int q' b =>
      rw [hx.int_inv, hy.int_inv]
      refine ⟨e, ?_⟩
      simp only [evBin] at e
      split at e
      · unfold evShift at e
        split at e
        · cases e
        · split at e <;> first | (cases e; rfl) | cases e
      · split at e
        · unfold evInt at e
          split at e <;> first | (cases e; rfl) | (cases e; done) | (split at e <;> first | (cases e; rfl) | cases e)
        · cases e
    | _ => exact other (fun _ _ _ _ _ h => by cases h) (fun _ _ h => by cases h)
  | str a =>
    cases y with
    | str b =>
      rw [hx.str_inv, hy.str_inv]
      refine ⟨e, ?_⟩
      simp only [evBin, evStr] at e
      split at e <;> first | (cases e; rfl) | (cases e; done) | (split at e <;> first | (cases e; rfl) | cases e)
    | _ => exact other (fun _ _ _ _ h => by cases h) (fun _ _ _ h => by cases h)
  | _ => exact other (fun _ _ _ _ h => by cases h) (fun _ _ h => by cases h)
theorem rg_VS {W : Wd} {v : AV} (h : rg v = true) : VS W v v := .eq v (rg_hf h)

/-! ## Slices -/
theorem headOk_cons {es : Nat} {c : List AV} {r : List (List AV)} (h : headOk es (c :: r) = true) : c.length = es := Nat.eq_of_beq_eq_true h
theorem zst_es {es es' : Nat} {l : List (List AV)} (h : headOk es l = true) (he : ∀ c, c ∈ l → c.length = es') : es' = es ∨ l.length = 0 := by
  cases l with
  | nil => exact .inr rfl
  | cons c r => exact .inl ((he c (List.mem_cons_self ..)).symm.trans (headOk_cons h))
theorem chunks_nth {es : Nat} {cs : List AV} : ∀ (n o i : Nat), i < n → (chunks es cs o n)[i]? = some ((cs.drop (o + i * es)).take es)
  | 0, _, _, h => by omega
  | n + 1, o, 0, _ => by simp [chunks]
  | n + 1, o, i + 1, h => by
    simp only [chunks, List.getElem?_cons_succ]
    rw [chunks_nth n (o + es) i (by omega), Nat.add_mul]
    congr 3; omega
theorem chunks_len {es : Nat} {cs : List AV} : ∀ (n o : Nat), (chunks es cs o n).length = n
  | 0, _ => rfl
  | n + 1, o => by simp [chunks, chunks_len n]
/-- Elements on both sides. -/
theorem elems_sim {W : Wd} {H G : Hp} (hs : Sm W H G) {x x' : AV} (h : VS W x x') {es : Nat} {l : List (List AV)} (e : elemsOf es H x = some l) :
    ∃ l', elemsOf es G x' = some l' ∧ l'.length = l.length ∧ ∀ (i : Nat) (c c' : List AV), l[i]? = some c → l'[i]? = some c' → (c' = c ∨ gfL c = true ∧ VSL W c c') := by
  cases x with
  | nils => cases h; cases e; exact ⟨[], rfl, rfl, fun i c c' h => by simp at h⟩
  | emp => cases h; cases e; exact ⟨[], rfl, rfl, fun i c c' h => by simp at h⟩
  | sl _ _ _ _ => exact absurd h.no_sl id
  | str s => rw [h.str_inv]; exact ⟨l, e, rfl, fun i c c' h1 h2 => .inl (by rw [h1] at h2; cases h2; rfl)⟩
  | lst l0 =>
    have e0 := e
    simp only [elemsOf] at e
    split at e
    · rename_i hh
      cases e
      cases h with
      | eq _ _ => exact ⟨l, e0, rfl, fun i c c' h1 h2 => .inl (by rw [h1] at h2; cases h2; rfl)⟩
      | lnil => exact ⟨[], rfl, rfl, fun i c c' h => by simp at h⟩
      | lemp => exact ⟨[], rfl, rfl, fun i c c' h => by simp at h⟩
      | zst es' _ b o cs hz hl hq he hel =>
        obtain ⟨st, ty, hb⟩ := hs.rz b cs hz
        have hes := zst_es hh he
        have hle : o + l.length * es ≤ cs.length := by
          rcases hes with rfl | h0
          · exact hl
          · rw [h0] at hl ⊢; omega
        refine ⟨chunks es cs o l.length, by simp only [elemsOf, if_pos hes, hb, if_pos hle], chunks_len _ _, fun i c c' h1 h2 => ?_⟩
        have hi := (List.getElem?_eq_some_iff.1 h1).1
        have hc := List.mem_of_getElem? h1
        have hees : es' = es := by
          rcases hes with h | h
          · exact h
          · omega
        subst hees
        rw [chunks_nth _ _ _ hi] at h2
        cases h2
        have hmul : i * es' + es' ≤ l.length * es' := by rw [← Nat.succ_mul]; exact Nat.mul_le_mul_right _ hi
        refine .inr ⟨hq c hc, by rw [he c hc]; simp; omega, fun j v v' e1 e2 => ?_⟩
        rw [List.getElem?_take] at e2
        split at e2
        · rw [List.getElem?_drop] at e2
          exact hel i c j v v' h1 e1 (by rw [← e2]; congr 1; omega)
        · cases e2
    · cases e
  | _ => cases e
theorem evLen_sim {W : Wd} {H G : Hp} (hs : Sm W H G) {x x' : AV} (h : VS W x x') {n : Nat} (e : evLen H x = some n) : evLen G x' = some n := by
  cases x with
  | map b =>
    obtain ⟨b', rfl, hb⟩ := h.map_inv
    obtain ⟨k, k', h1, h2, h3⟩ := hs.bx b b' hb
    simp only [evLen, h1] at e
    split at e
    · rename_i es hk
      cases hk
      cases h3 with
      | map _ es' hn _ => simp only [evLen, h2, ← hn]; exact e
    · cases e
  | sl _ _ _ _ => exact absurd h.no_sl id
  | und => cases e
  | bool _ => cases e
  | int _ _ => cases e
  | str s => rw [h.str_inv]; exact e
  | lst l => cases h <;> exact e
  | nils => cases h; exact e
  | emp => cases h; exact e
  | nilm => cases h; exact e
  | _ => cases e
theorem lenOk_sim {W : Wd} {x x' : AV} (h : VS W x x') {k : Nat} (e : lenOk k x = true) : lenOk k x' = true := by
  cases x with
  | sl _ _ _ _ => exact absurd h.no_sl id
  | str s => rw [h.str_inv]; exact e
  | lst l =>
    match k, e with
    | 0, e => cases e
    | 1, e => cases h <;> rfl
    | 2, e => cases e
    | n + 3, e => cases e
  | nils => cases h; exact e
  | emp => cases h; exact e
  | nilm => cases h; exact e
  | map b => obtain ⟨b', rfl, hb⟩ := h.map_inv; match k, e with
    | 0, e => cases e
    | 1, e => cases e
    | 2, e => rfl
    | n + 3, e => cases e
  | _ => match k, e with
    | 0, e => cases e
    | 1, e => cases e
    | 2, e => cases e
    | n + 3, e => cases e
/-- A slice's slice. -/
theorem evSlice_sim {W : Wd} {x x' : AV} (h : VS W x x') {es lo hi : Nat} {mx : Option Nat} {v : AV} (e : evSlice es x lo hi mx = some v) : ∃ v', evSlice es x' lo hi mx = some v' ∧ VS W v v' := by
  cases x with
  | sl _ _ _ _ => exact absurd h.no_sl id
  | nils =>
    cases h
    have e0 := e
    simp only [evSlice] at e
    split at e
    · cases e; exact ⟨.nils, e0, .eq _ rfl⟩
    · cases e
  | emp =>
    cases h
    have e0 := e
    simp only [evSlice] at e
    split at e
    · cases e; exact ⟨.emp, e0, .eq _ rfl⟩
    · cases e
  | lst l =>
    have e0 := e
    simp only [evSlice] at e
    split at e
    · rename_i hc
      obtain ⟨hk0, c1, c2⟩ := hc
      have isl : ∃ l1, v = .lst l1 := by
        split at e
        · cases e; exact ⟨_, rfl⟩
        · split at e
          · cases e; exact ⟨_, rfl⟩
          · split at e
            · cases e; exact ⟨_, rfl⟩
            · cases e
      cases h with
      | eq _ _ => obtain ⟨l1, rfl⟩ := isl; exact ⟨_, e0, .eq _ rfl⟩
      | lnil =>
        simp only [List.length_nil] at c2
        obtain rfl : hi = 0 := by omega
        obtain rfl : lo = 0 := by omega
        cases mx with
        | none => cases e; exact ⟨.nils, by simp [evSlice], .lnil⟩
        | some m =>
          simp only [List.length_nil] at e
          split at e
          · rename_i hm; cases e; obtain ⟨rfl, _⟩ := hm; exact ⟨.nils, by simp [evSlice], .lnil⟩
          · split at e
            · rename_i h1 h2; exact absurd ⟨by omega, trivial⟩ h1
            · cases e
      | lemp =>
        simp only [List.length_nil] at c2
        obtain rfl : hi = 0 := by omega
        obtain rfl : lo = 0 := by omega
        cases mx with
        | none => cases e; exact ⟨.emp, by simp [evSlice], .lemp⟩
        | some m =>
          simp only [List.length_nil] at e
          split at e
          · rename_i hm; cases e; obtain ⟨rfl, _⟩ := hm; exact ⟨.emp, by simp [evSlice], .lemp⟩
          · split at e
            · rename_i h1 h2; exact absurd ⟨by omega, trivial⟩ h1
            · cases e
      | zst es' _ b o cs hz hl hq he hel =>
        have hes := zst_es hk0 he
        have main : VS W (.lst ((l.drop lo).take (hi - lo))) (.sl es' b (o + lo * es') (hi - lo)) := by
          have hlen : ((l.drop lo).take (hi - lo)).length = hi - lo := by simp; omega
          have hmul : lo * es' + (hi - lo) * es' = hi * es' := by rw [← Nat.add_mul]; congr 1; omega
          have hmul2 : hi * es' ≤ l.length * es' := Nat.mul_le_mul_right _ c2
          have := VS.zst (W := W) es' ((l.drop lo).take (hi - lo)) b (o + lo * es') cs hz (by rw [hlen]; omega) (fun c hc => hq c (List.mem_of_mem_drop (List.mem_of_mem_take hc))) (fun c hc => he c (List.mem_of_mem_drop (List.mem_of_mem_take hc))) (fun i c j v v' e1 e2 e3 => by
            rw [List.getElem?_take] at e1
            split at e1
            · rw [List.getElem?_drop] at e1
              refine hel (lo + i) c j v v' e1 e2 (by rw [← e3, Nat.add_mul]; congr 1; omega)
            · cases e1)
          rwa [hlen] at this
        simp only [evSlice, if_pos (And.intro hes (And.intro c1 c2))]
        split at e
        · cases e; exact ⟨_, rfl, main⟩
        · split at e
          · rename_i hm
            cases e
            simp only [if_pos hm]
            exact ⟨_, rfl, .lemp⟩
          · rename_i hm
            simp only [if_neg hm]
            split at e
            · rename_i hm2
              cases e
              simp only [if_pos hm2]
              exact ⟨_, rfl, main⟩
            · cases e
    · cases e
  | _ => cases e
theorem natOf_sim {W : Wd} {x x' : AV} (h : VS W x x') {n : Nat} (e : natOf x = some n) : natOf x' = some n := by
  cases x with
  | int k i => rw [h.int_inv]; exact e
  | _ => cases e
theorem optOf_sim {W : Wd} {f f' : Fr} (h : FS W f f') {x : Option CX} (hx : cxO x = true) {d n : Nat} (e : optOf f d x = some n) : optOf f' d x = some n := by
  cases x with
  | none => exact e
  | some x => exact natOf_sim (cx_rel h hx) e
theorem evIaddr_sim {W : Wd} {x x' i i' : AV} (h : VS W x x') (hi : VS W i i') {es : Nat} {v : AV} (e : evIaddr es x i = some v) : ∃ v', evIaddr es x' i' = some v' ∧ VS W v v' := by
  cases i with
  | int k z =>
    rw [hi.int_inv]
    cases z with
    | negSucc n => cases e
    | ofNat n =>
      cases x with
      | sl _ _ _ _ => exact absurd h.no_sl id
      | lst l =>
        have e0 := e
        simp only [evIaddr] at e
        split at e
        · rename_i c hc
          split at e
          · rename_i hce
            cases e
            cases h with
            | eq _ _ => exact ⟨_, e0, .eq _ rfl⟩
            | lnil => simp at hc
            | lemp => simp at hc
            | zst es' _ b o cs hz hl hq he hel =>
              have hm := List.mem_of_getElem? hc
              have hees : es' = es := by rw [← he c hm]; exact hce
              subst hees
              have hn := (List.getElem?_eq_some_iff.1 hc).1
              have hmul : n * es' + es' ≤ l.length * es' := by rw [← Nat.succ_mul]; exact Nat.mul_le_mul_right _ hn
              refine ⟨.ptr b (o + n * es'), by simp only [evIaddr, if_pos (And.intro trivial hn)], ?_⟩
              exact .zptr c 0 b (o + n * es') cs hz (by rw [he c hm]; omega) (hq c hm) fun j v v' e1 e2 => hel n c j v v' hc e1 (by rw [← e2]; congr 1; omega)
          · cases e
        · cases e
      | _ => cases e
  | _ => cases e
theorem evFaddr_sim {W : Wd} {x x' : AV} (h : VS W x x') {off : Nat} {v : AV} (e : evFaddr off x = some v) : ∃ v', evFaddr off x' = some v' ∧ VS W v v' := by
  cases x with
  | ptr b o => obtain ⟨b', rfl, hb⟩ := h.ptr_inv; cases e; exact ⟨_, rfl, .ptr b _ b' hb⟩
  | cptr cs o =>
    cases e
    cases h with
    | eq _ _ => exact ⟨_, rfl, .eq _ rfl⟩
    | zptr _ _ b d cs' hz hl hq hh => exact ⟨_, rfl, by rw [Nat.add_assoc]; exact .zptr cs _ b d cs' hz hl hq hh⟩
  | _ => cases e
theorem evIaddrA_sim {W : Wd} {x x' i i' : AV} (h : VS W x x') (hi : VS W i i') {len es : Nat} {v : AV} (e : evIaddrA len es x i = some v) : ∃ v', evIaddrA len es x' i' = some v' ∧ VS W v v' := by
  cases i with
  | int k z =>
    rw [hi.int_inv]
    cases z with
    | negSucc n => cases e
    | ofNat n =>
      simp only [evIaddrA] at e ⊢
      split at e
      · rename_i hn
        rw [if_pos hn]
        cases x with
        | ptr b o => obtain ⟨b', rfl, hb⟩ := h.ptr_inv; cases e; exact ⟨_, rfl, .ptr b _ b' hb⟩
        | cptr cs o =>
          cases e
          cases h with
          | eq _ _ => exact ⟨_, rfl, .eq _ rfl⟩
          | zptr _ _ b d cs' hz hl hq hh => exact ⟨_, rfl, by rw [Nat.add_assoc]; exact .zptr cs _ b d cs' hz hl hq hh⟩
        | _ => cases e
      · cases e
  | _ => cases e
theorem keyEq_sim {W : Wd} {ks : Bool} {a b a' b' : AV} (ha : VS W a a') (hb : VS W b b') {r : Bool} (e : keyEq ks a b = some r) : keyEq ks a' b' = some r := by
  cases ks <;> cases a <;> first | (cases e; done) | skip
  all_goals (cases b <;> first | (cases e; done) | skip)
  · rw [ha.int_inv, hb.int_inv]; exact e
  · rw [ha.str_inv, hb.str_inv]; exact e
end Go.EV

/- The pure machine: single operations, all. -/
namespace Go.EV

/-- From world to world, as the heaps grow. -/
structure Nx (W : Wd) (H G : Hp) (W' : Wd) (H1 G1 : Hp) : Prop where
  r : ∀ b b', W.r b = some b' → W'.r b = some b'
  z : ∀ b c, W.z b = some c → W'.z b = some c
  nw : ∀ b b', W'.r b = some b' → W.r b = some b' ∨ (H.length ≤ b ∧ G.length ≤ b')
  sm : Sm W' H1 G1
  hl : H.length ≤ H1.length
  gl : G.length ≤ G1.length
  fre : Fre W G W' G1
theorem Nx.refl {W : Wd} {H G : Hp} (h : Sm W H G) : Nx W H G W H G := ⟨fun _ _ e => e, fun _ _ e => e, fun _ _ e => .inl e, h, Nat.le_refl _, Nat.le_refl _, .refl W G⟩

def opOk : CI → Bool
  | .mv x => cxOk x
  | .pick c a b => cxOk c && (cxOk a && cxOk b)
  | .alloc _ z => hfL z
  | .box _ x => cxOk x
  | .build z ps => hfL z && ps.all fun p => cxOk p.2.2
  | .bslice _ _ z _ ps => hfL z && ps.all fun p => cxOk p.2
  | .load _ _ x => cxOk x
  | .store _ x y => cxOk x && cxOk y
  | .nilck x => cxOk x
  | .bin _ _ x y => cxOk x && cxOk y
  | .un _ x => cxOk x
  | .toint _ x => cxOk x
  | .same x => cxOk x
  | .s2b x => cxOk x
  | .b2s x => cxOk x
  | .mkif _ x => cxOk x
  | .mkfn _ cs => cxsOk cs
  | .slice _ x lo hi mx => cxOk x && (cxO lo && (cxO hi && cxO mx))
  | .slices x lo hi => cxOk x && (cxO lo && cxO hi)
  | .faddr _ x => cxOk x
  | .field _ _ _ x => cxOk x
  | .iaddr _ x i => cxOk x && cxOk i
  | .iaddrA _ _ x i => cxOk x && cxOk i
  | .index x i => cxOk x && cxOk i
  | .ext _ x => cxOk x
  | .len _ x => cxOk x
  | .mkmap => true
  | .lookup _ z _ m k => hf z && (cxOk m && cxOk k)
  | .mapup _ m k v => cxOk m && (cxOk k && cxOk v)
  | .minmax _ x y => cxOk x && cxOk y
  | _ => false
theorem getD_VS {W : Wd} {z : AV} (hz : hf z = true) {r r' : Option AV} (h : r.isSome = r'.isSome ∧ ∀ v v', r = some v → r' = some v' → VS W v v') : VS W (r.getD z) (r'.getD z) := by
  cases r with
  | none => cases r' with
    | none => exact .eq z hz
    | some v => cases h.1
  | some v => cases r' with
    | none => cases h.1
    | some v' => exact h.2 v v' rfl rfl
theorem findKey_sim {W : Wd} {ks : Bool} {k k' : AV} (hk : VS W k k') : ∀ {es es' : List (AV × AV)} {r : Option AV}, es.length = es'.length → (∀ (i : Nat) (k v k' v' : AV), es[i]? = some (k, v) → es'[i]? = some (k', v') → VS W k k' ∧ VS W v v') → findKey ks k es = some r →
    ∃ r', findKey ks k' es' = some r' ∧ (r.isSome = r'.isSome ∧ ∀ v v', r = some v → r' = some v' → VS W v v')
  | [], [], r, _, _, h => by
    simp only [findKey, Option.some.injEq] at h
    subst h
    exact ⟨none, rfl, rfl, fun v v' e => by cases e⟩
  | (q, u) :: es, (q', u') :: es', r, hn, hh, h => by
    simp only [findKey] at h ⊢
    obtain ⟨h1, h2⟩ := hh 0 q u q' u' rfl rfl
    cases e : keyEq ks k q with
    | none => rw [e] at h; cases h
    | some b =>
      rw [e] at h
      rw [keyEq_sim hk h1 e]
      cases b with
      | true =>
        cases h
        exact ⟨some u', rfl, rfl, fun v v' e1 e2 => by cases e1; cases e2; exact h2⟩
      | false => exact findKey_sim hk (by simpa using hn) (fun i k v k' v' a b => hh (i + 1) k v k' v' (by simpa using a) (by simpa using b)) h
theorem putKey_sim {W : Wd} {ks : Bool} {k k' v v' : AV} (hk : VS W k k') (hv : VS W v v') : ∀ {es es' r : List (AV × AV)}, es.length = es'.length → (∀ (i : Nat) (k v k' v' : AV), es[i]? = some (k, v) → es'[i]? = some (k', v') → VS W k k' ∧ VS W v v') → putKey ks k v es = some r →
    ∃ r', putKey ks k' v' es' = some r' ∧ r.length = r'.length ∧ ∀ (i : Nat) (k v k' v' : AV), r[i]? = some (k, v) → r'[i]? = some (k', v') → VS W k k' ∧ VS W v v'
  | [], [], r, _, _, h => by
    simp only [putKey, Option.some.injEq] at h
    subst h
    refine ⟨_, rfl, rfl, fun i a b a' b' e1 e2 => ?_⟩
    cases i with
    | zero => simp at e1 e2; obtain ⟨rfl, rfl⟩ := e1; obtain ⟨rfl, rfl⟩ := e2; exact ⟨hk, hv⟩
    | succ i => simp at e1
  | (q, u) :: es, (q', u') :: es', r, hn, hh, h => by
    simp only [putKey] at h ⊢
    obtain ⟨h1, h2⟩ := hh 0 q u q' u' rfl rfl
    cases e : keyEq ks k q with
    | none => rw [e] at h; cases h
    | some b =>
      rw [e] at h
      rw [keyEq_sim hk h1 e]
      cases b with
      | true =>
        cases h
        refine ⟨_, rfl, by simpa using hn, fun i a b a' b' e1 e2 => ?_⟩
        cases i with
        | zero => simp at e1 e2; obtain ⟨rfl, rfl⟩ := e1; obtain ⟨rfl, rfl⟩ := e2; exact ⟨h1, hv⟩
        | succ i => exact hh (i + 1) a b a' b' (by simpa using e1) (by simpa using e2)
      | false =>
        simp only at h ⊢
        obtain ⟨r1, hr, rfl⟩ := Option.map_eq_some_iff.1 h
        obtain ⟨r2, q1, q2, q3⟩ := putKey_sim hk hv (by simpa using hn) (fun i k v k' v' a b => hh (i + 1) k v k' v' (by simpa using a) (by simpa using b)) hr
        refine ⟨_, by rw [q1]; rfl, by simpa using q2, fun i a b a' b' e1 e2 => ?_⟩
        cases i with
        | zero => simp at e1 e2; obtain ⟨rfl, rfl⟩ := e1; obtain ⟨rfl, rfl⟩ := e2; exact ⟨h1, h2⟩
        | succ i => exact q3 i a b a' b' (by simpa using e1) (by simpa using e2)
theorem byteOf_rg : ∀ {c : List AV} {n : Nat}, byteOf c = some n → rgL c = true
  | [.int .u8 (.ofNat n)], _, _ => rfl
theorem bytes_sim {W : Wd} : ∀ {l l' : List (List AV)} {s : List Nat}, l'.length = l.length → (∀ (i : Nat) (c c' : List AV), l[i]? = some c → l'[i]? = some c' → (c' = c ∨ gfL c = true ∧ VSL W c c')) → optL byteOf l = some s → optL byteOf l' = some s
  | [], [], _, _, _, h => h
  | c :: l, c' :: l', s, hn, hh, h => by
    simp only [optL] at h ⊢
    cases e : byteOf c with
    | none => rw [e] at h; cases h
    | some b =>
      rw [e] at h
      have hc : c' = c := by
        rcases hh 0 c c' rfl rfl with q | ⟨_, q⟩
        · exact q
        · exact rgL_eq (byteOf_rg e) q
      rw [hc, e]
      simp only at h ⊢
      obtain ⟨x, hx, rfl⟩ := Option.map_eq_some_iff.1 h
      rw [bytes_sim (by simpa using hn) (fun i c c' a b => hh (i + 1) c c' (by simpa using a) (by simpa using b)) hx]
      rfl

/-- A plain operation on both sides. -/
theorem evI_sim {W : Wd} {f f' : Fr} {H G : Hp} (hf_ : FS W f f') (hs : Sm W H G) {i : CI} (hok : opOk i = true) (hb : ∀ ty es z len ps, i ≠ .bslice ty es z (len + 1) ps) {v : AV} {H1 : Hp} (hl : ∀ n ag x cs o, i = .load n ag x → x.ev f = .cptr cs o → hf v = true) (e : evI f H i = some (v, H1)) :
    ∃ W' v' G1, evI f' G i = some (v', G1) ∧ VS W' v v' ∧ Nx W H G W' H1 G1 ∧ Up W W' := by
  have pure : ∀ {v'}, evI f' G i = some (v', G) → VS W v v' → H1 = H → ∃ W' v' G1, evI f' G i = some (v', G1) ∧ VS W' v v' ∧ Nx W H G W' H1 G1 ∧ Up W W' := fun {v'} h1 h2 h3 => by
    subst h3; exact ⟨W, v', G, h1, h2, .refl hs, .refl W⟩
  have box : ∀ {k k' : Blk}, BS W k k' → H1 = H ++ [k] → Nx W H G (W.newb H.length G.length) H1 (G ++ [k']) ∧ Up W (W.newb H.length G.length) := fun {k k'} hk h => by
    subst h
    have hu := Wd.newb_up (b' := G.length) (hs.nor (Nat.le_refl _))
    refine ⟨⟨hu.r, hu.z, fun b b' e => ?_, hs.newb (hk.up hu), by simp, by simp, fun c hc hf => ⟨Wd.newb_free hf (by omega), List.getElem?_append_left hc⟩⟩, hu⟩
    have e : (if b = H.length then some G.length else W.r b) = some b' := e
    split at e
    · cases e; subst b; exact .inr ⟨Nat.le_refl _, Nat.le_refl _⟩
    · exact .inl e
  have newr : (W.newb H.length G.length).r H.length = some G.length := by
    show (if H.length = H.length then some G.length else W.r H.length) = some G.length
    rw [if_pos rfl]
  have setb : ∀ {b b' : Nat} {k k' : Blk}, W.r b = some b' → BS W k k' → H1 = H.set b k → Nx W H G W H1 (G.set b' k') := fun {b b' k k'} hb hk h => by
    subst h
    exact ⟨fun _ _ e => e, fun _ _ e => e, fun _ _ e => .inl e, hs.setb hb hk, by simp, by simp, fun c _ hf => ⟨hf, List.getElem?_set_ne fun e => hf.1 b (by rw [← e]; exact hb)⟩⟩
  cases i with
  | mv x =>
    simp only [evI, Option.some.injEq, Prod.mk.injEq] at e
    obtain ⟨rfl, rfl⟩ := e
    exact pure rfl (cx_rel hf_ hok) rfl
  | pick c a b =>
    simp only [opOk, Bool.and_eq_true] at hok
    have h1 := cx_rel hf_ hok.1
    have h2 := cx_rel hf_ hok.2.1
    have h3 := cx_rel hf_ hok.2.2
    simp only [evI] at e
    split at e
    · rename_i t ht
      rw [ht] at h1
      simp only [Option.some.injEq, Prod.mk.injEq] at e
      obtain ⟨rfl, rfl⟩ := e
      exact pure (v' := bif t then a.ev f' else b.ev f') (by simp only [evI, h1.bool_inv]) (by cases t <;> assumption) rfl
    · cases e
  | alloc ty z =>
    simp only [evI, Option.some.injEq, Prod.mk.injEq] at e
    obtain ⟨rfl, rfl⟩ := e
    have := box (k := .cells 1 ty z) (k' := .cells 1 ty z) (.cells ty z z (.eq hok)) rfl
    exact ⟨_, _, _, rfl, .ptr _ _ _ newr, this.1, this.2⟩
  | box ty x =>
    have h1 := cx_rel hf_ hok
    simp only [evI] at e
    split at e
    · cases e
    · rename_i hu
      simp only [Option.some.injEq, Prod.mk.injEq] at e
      obtain ⟨rfl, rfl⟩ := e
      obtain ⟨q1, q2⟩ := h1.cells hu
      have := box (k := .cells 1 ty (x.ev f).cells) (k' := .cells 1 ty (x.ev f').cells) (.cells ty _ _ q1) rfl
      exact ⟨_, _, _, by simp only [evI, q2], .ptr _ _ _ newr, this.1, this.2⟩
  | build z ps =>
    simp only [opOk, Bool.and_eq_true] at hok
    simp only [evI] at e
    obtain ⟨cs, hc, he⟩ := Option.map_eq_some_iff.1 e
    simp only [Prod.mk.injEq] at he
    obtain ⟨rfl, rfl⟩ := he
    obtain ⟨cs', q1, q2⟩ := evBuild_sim hf_ hok.2 (.eq hok.1) hc
    exact pure (by simp only [evI, q1, Option.map_some]) (.agg _ _ q2.1 q2.2) rfl
  | bslice ty es z len ps =>
    cases len with
    | succ len => exact absurd rfl (hb _ _ _ _ _)
    | zero =>
      simp only [opOk, Bool.and_eq_true] at hok
      simp only [evI, if_true] at e
      obtain ⟨cs, hc, he⟩ := Option.map_eq_some_iff.1 e
      simp only [Prod.mk.injEq] at he
      obtain ⟨rfl, rfl⟩ := he
      obtain ⟨cs', q1, q2⟩ := evBuildS_sim hf_ hok.2 (rep_sim (.eq hok.1) 0) hc
      exact pure (v' := .emp) (by simp only [evI, q1, Option.map_some, if_true]) (.eq _ rfl) rfl
  | load n ag x =>
    have h1 := cx_rel hf_ hok
    simp only [evI] at e
    obtain ⟨u, hu, he⟩ := Option.map_eq_some_iff.1 e
    simp only [Prod.mk.injEq] at he
    obtain ⟨rfl, rfl⟩ := he
    obtain ⟨v', q1, q2⟩ := evLoad_sim hs h1 hu (fun ⟨cs, o, h⟩ => hl n ag x cs o rfl h)
    exact pure (by simp only [evI, q1, Option.map_some]) q2 rfl
  | store n x y =>
    simp only [opOk, Bool.and_eq_true] at hok
    have h1 := cx_rel hf_ hok.1
    have h2 := cx_rel hf_ hok.2
    simp only [evI] at e
    obtain ⟨u, hu, he⟩ := Option.map_eq_some_iff.1 e
    simp only [Prod.mk.injEq] at he
    obtain ⟨rfl, rfl⟩ := he
    unfold evStore at hu
    split at hu
    · rename_i b o hx
      rw [hx] at h1
      obtain ⟨b', hx', hb⟩ := h1.ptr_inv
      obtain ⟨k, k', g1, g2, g3⟩ := hs.bx b b' hb
      rw [g1] at hu
      split at hu
      · rename_i ty cs hk
        cases hk
        cases g3 with
        | cells _ _ cs' g4 =>
          split at hu
          · rename_i hc
            cases hu
            have hu2 : (y.ev f).isUnd = false := by
              cases hy : y.ev f <;> first | rfl | skip
              rw [hy] at hc
              have := hc.2.2.1
              simp [AV.cells, AV.one] at this
            obtain ⟨q1, q2⟩ := h2.cells hu2
            refine ⟨W, .tup [], G.set b' (.cells 1 ty (stc cs' o (y.ev f').cells)), ?_, .eq _ rfl, setb hb (.cells ty _ _ (stc_sim g4 q1 o)) rfl, .refl W⟩
            simp only [evI, evStore, hx', g2]
            rw [if_pos ⟨by rw [← q1.1]; exact hc.1, by rw [← g4.1]; exact hc.2.1, q1.ones hc.2.2.1, hc.2.2.2⟩]
            rfl
          · cases hu
      · cases hu
    · cases hu
  | nilck x =>
    have h1 := cx_rel hf_ hok
    simp only [evI] at e
    split at e
    · rename_i b o hx
      cases e
      rw [hx] at h1
      obtain ⟨b', hx', hb⟩ := h1.ptr_inv
      exact pure (v' := .ptr b' o) (by simp only [evI, hx']) (.ptr _ _ _ hb) rfl
    · rename_i cs o hx
      cases e
      rw [hx] at h1
      have hq : ∀ y, VS W (.cptr cs o) y → (∃ b o', y = .ptr b o') ∨ y = .cptr cs o := fun y h => by
        cases h with
        | eq _ _ => exact .inr rfl
        | zptr _ _ b d cs' _ _ _ _ => exact .inl ⟨_, _, rfl⟩
      rcases hq _ h1 with ⟨b, o', hx'⟩ | hx'
      · exact pure (v' := .ptr b o') (by simp only [evI, hx']) (by rw [← hx']; exact h1) rfl
      · exact pure (v' := .cptr cs o) (by simp only [evI, hx']) (by rw [hx'] at h1; exact h1) rfl
    · rename_i g cs hx
      cases e
      rw [hx] at h1
      obtain ⟨cs', hx', hq⟩ := h1.fn_inv
      rw [hx'] at h1
      exact pure (v' := .fn g cs') (by simp only [evI, hx']) h1 rfl
    · rename_i b hx
      cases e
      rw [hx] at h1
      obtain ⟨b', hx', hb⟩ := h1.yld_inv
      exact pure (v' := .yld b') (by simp only [evI, hx']) (.yld _ _ hb) rfl
    · cases e
  | bin o k x y =>
    simp only [opOk, Bool.and_eq_true] at hok
    simp only [evI] at e
    obtain ⟨u, hu, he⟩ := Option.map_eq_some_iff.1 e
    simp only [Prod.mk.injEq] at he
    obtain ⟨rfl, rfl⟩ := he
    obtain ⟨q1, q2⟩ := evBin_sim (cx_rel hf_ hok.1) (cx_rel hf_ hok.2) hu
    exact pure (by simp only [evI, q1, Option.map_some]) (rg_VS q2) rfl
  | un o x =>
    have h1 := cx_rel hf_ hok
    simp only [evI] at e
    obtain ⟨u, hu, he⟩ := Option.map_eq_some_iff.1 e
    simp only [Prod.mk.injEq] at he
    obtain ⟨rfl, rfl⟩ := he
    generalize hx : x.ev f = a at h1 hu
    have : evUn o (x.ev f') = some u ∧ rg u = true := by
      unfold evUn at hu
      split at hu
      · cases hu; rw [h1.int_inv]; exact ⟨rfl, rfl⟩
      · cases hu; rw [h1.bool_inv]; exact ⟨rfl, rfl⟩
      · cases hu
    exact pure (by simp only [evI, this.1, Option.map_some]) (rg_VS this.2) rfl
  | toint k x =>
    have h1 := cx_rel hf_ hok
    simp only [evI] at e
    split at e
    · rename_i q n hx
      simp only [Option.some.injEq, Prod.mk.injEq] at e
      obtain ⟨rfl, rfl⟩ := e
      rw [hx] at h1
      exact pure (by simp only [evI, h1.int_inv]) (.eq _ rfl) rfl
    · cases e
  | same x =>
    have h1 := cx_rel hf_ hok
    simp only [evI] at e
    split at e
    · rename_i s hx
      simp only [Option.some.injEq, Prod.mk.injEq] at e
      obtain ⟨rfl, rfl⟩ := e
      rw [hx] at h1
      exact pure (by simp only [evI, h1.str_inv]) (.eq _ rfl) rfl
    · cases e
  | s2b x =>
    have h1 := cx_rel hf_ hok
    simp only [evI] at e
    split at e
    · rename_i s hx
      simp only [Option.some.injEq, Prod.mk.injEq] at e
      obtain ⟨rfl, rfl⟩ := e
      rw [hx] at h1
      exact pure (by simp only [evI, h1.str_inv]) (.eq _ rfl) rfl
    · cases e
  | b2s x =>
    have h1 := cx_rel hf_ hok
    simp only [evI] at e
    split at e
    · rename_i l hl0
      obtain ⟨s, hs', he⟩ := Option.map_eq_some_iff.1 e
      simp only [Prod.mk.injEq] at he
      obtain ⟨rfl, rfl⟩ := he
      obtain ⟨l', q1, q2, q3⟩ := elems_sim hs h1 hl0
      exact pure (v' := .str s) (by simp only [evI, q1, bytes_sim q2 q3 hs', Option.map_some]) (.eq _ rfl) rfl
    · cases e
  | mkif t x =>
    simp only [evI, Option.some.injEq, Prod.mk.injEq] at e
    obtain ⟨rfl, rfl⟩ := e
    exact pure rfl (.iface _ _ _ (cx_rel hf_ hok)) rfl
  | mkfn k cs =>
    simp only [evI, Option.some.injEq, Prod.mk.injEq] at e
    obtain ⟨rfl, rfl⟩ := e
    have := cxs_rel hf_ hok
    exact pure rfl (.fn _ _ _ this.1 this.2) rfl
  | slice es x lo hi mx =>
    simp only [opOk, Bool.and_eq_true] at hok
    have h1 := cx_rel hf_ hok.1
    simp only [evI] at e
    split at e
    · rename_i n hn
      have hn' := evLen_sim hs h1 hn
      split at e
      · rename_i a b ha hb
        have ha' := optOf_sim hf_ hok.2.1 ha
        have hb' := optOf_sim hf_ hok.2.2.1 hb
        split at e
        · obtain ⟨u, hu, he⟩ := Option.map_eq_some_iff.1 e
          simp only [Prod.mk.injEq] at he
          obtain ⟨rfl, rfl⟩ := he
          obtain ⟨v', q1, q2⟩ := evSlice_sim h1 hu
          exact pure (by simp only [evI, hn', ha', hb', q1, Option.map_some]) q2 rfl
        · rename_i m
          split at e
          · rename_i m' hm
            obtain ⟨u, hu, he⟩ := Option.map_eq_some_iff.1 e
            simp only [Prod.mk.injEq] at he
            obtain ⟨rfl, rfl⟩ := he
            obtain ⟨v', q1, q2⟩ := evSlice_sim h1 hu
            have hm' := natOf_sim (cx_rel hf_ hok.2.2.2) hm
            exact pure (by simp only [evI, hn', ha', hb', hm', q1, Option.map_some]) q2 rfl
          · cases e
      · cases e
    · cases e
  | slices x lo hi =>
    simp only [opOk, Bool.and_eq_true] at hok
    have h1 := cx_rel hf_ hok.1
    simp only [evI] at e
    split at e
    · rename_i s hx
      rw [hx] at h1
      split at e
      · rename_i a b ha hb
        have ha' := optOf_sim hf_ hok.2.1 ha
        have hb' := optOf_sim hf_ hok.2.2 hb
        obtain ⟨u, hu, he⟩ := Option.map_eq_some_iff.1 e
        simp only [Prod.mk.injEq] at he
        obtain ⟨rfl, rfl⟩ := he
        have hr : rg u = true := by
          unfold evSliceS at hu
          split at hu
          · cases hu; rfl
          · cases hu
        exact pure (by simp only [evI, h1.str_inv, ha', hb', hu, Option.map_some]) (rg_VS hr) rfl
      · cases e
    · cases e
  | faddr off x =>
    have h1 := cx_rel hf_ hok
    simp only [evI] at e
    obtain ⟨u, hu, he⟩ := Option.map_eq_some_iff.1 e
    simp only [Prod.mk.injEq] at he
    obtain ⟨rfl, rfl⟩ := he
    obtain ⟨v', q1, q2⟩ := evFaddr_sim h1 hu
    exact pure (by simp only [evI, q1, Option.map_some]) q2 rfl
  | field off n ag x =>
    have h1 := cx_rel hf_ hok
    simp only [evI] at e
    split at e
    · rename_i cs hx
      rw [hx] at h1
      obtain ⟨cs', hx', hq⟩ := h1.agg_inv
      obtain ⟨u, hu, he⟩ := Option.map_eq_some_iff.1 e
      simp only [Prod.mk.injEq] at he
      obtain ⟨rfl, rfl⟩ := he
      obtain ⟨v', q1, q2⟩ := ldc_sim hq hu
      exact pure (by simp only [evI, hx', q1, Option.map_some]) q2 rfl
    · cases e
  | iaddr es x i =>
    simp only [opOk, Bool.and_eq_true] at hok
    simp only [evI] at e
    obtain ⟨u, hu, he⟩ := Option.map_eq_some_iff.1 e
    simp only [Prod.mk.injEq] at he
    obtain ⟨rfl, rfl⟩ := he
    obtain ⟨v', q1, q2⟩ := evIaddr_sim (cx_rel hf_ hok.1) (cx_rel hf_ hok.2) hu
    exact pure (by simp only [evI, q1, Option.map_some]) q2 rfl
  | iaddrA len es x i =>
    simp only [opOk, Bool.and_eq_true] at hok
    simp only [evI] at e
    obtain ⟨u, hu, he⟩ := Option.map_eq_some_iff.1 e
    simp only [Prod.mk.injEq] at he
    obtain ⟨rfl, rfl⟩ := he
    obtain ⟨v', q1, q2⟩ := evIaddrA_sim (cx_rel hf_ hok.1) (cx_rel hf_ hok.2) hu
    exact pure (by simp only [evI, q1, Option.map_some]) q2 rfl
  | index x i =>
    simp only [opOk, Bool.and_eq_true] at hok
    have h1 := cx_rel hf_ hok.1
    have h2 := cx_rel hf_ hok.2
    simp only [evI] at e
    obtain ⟨u, hu, he⟩ := Option.map_eq_some_iff.1 e
    simp only [Prod.mk.injEq] at he
    obtain ⟨rfl, rfl⟩ := he
    have : evIdx (x.ev f') (i.ev f') = some u ∧ rg u = true := by
      generalize x.ev f = a at h1 hu
      generalize i.ev f = b at h2 hu
      unfold evIdx at hu
      split at hu
      · rw [h1.str_inv]
        split at hu
        · rw [h2.int_inv]
          refine ⟨hu, ?_⟩
          split at hu
          · cases hu; rfl
          · cases hu
        · cases hu
      · cases hu
    exact pure (by simp only [evI, this.1, Option.map_some]) (rg_VS this.2) rfl
  | ext n x =>
    have h1 := cx_rel hf_ hok
    simp only [evI] at e
    split at e
    · rename_i vs hx
      rw [hx] at h1
      obtain ⟨vs', hx', hq⟩ := h1.tup_inv
      obtain ⟨u, hu, he⟩ := Option.map_eq_some_iff.1 e
      simp only [Prod.mk.injEq] at he
      obtain ⟨rfl, rfl⟩ := he
      obtain ⟨v', q1, q2⟩ := hq.at hu
      exact pure (by simp only [evI, hx', q1, Option.map_some]) q2 rfl
    · cases e
  | len k x =>
    have h1 := cx_rel hf_ hok
    simp only [evI] at e
    split at e
    · rename_i hk
      cases hu : evLen H (x.ev f) with
      | none => rw [hu] at e; cases e
      | some u =>
        rw [hu] at e
        cases e
        exact pure (v' := .int .i64 u) (by simp only [evI, lenOk_sim h1 hk, evLen_sim hs h1 hu]; rfl) (.eq _ rfl) rfl
    · cases e
  | mkmap =>
    simp only [evI, Option.some.injEq, Prod.mk.injEq] at e
    obtain ⟨rfl, rfl⟩ := e
    have := box (k := .map []) (k' := .map []) (.map [] [] rfl fun i k v k' v' e => by simp at e) rfl
    exact ⟨_, _, _, rfl, .map _ _ newr, this.1, this.2⟩
  | lookup ks z ok m k =>
    simp only [opOk, Bool.and_eq_true] at hok
    have h1 := cx_rel hf_ hok.2.1
    have h2 := cx_rel hf_ hok.2.2
    simp only [evI] at e
    split at e
    · rename_i b hx
      rw [hx] at h1
      obtain ⟨b', hx', hb⟩ := h1.map_inv
      obtain ⟨q, q', g1, g2, g3⟩ := hs.bx b b' hb
      rw [g1] at e
      split at e
      · rename_i es hk
        cases hk
        cases g3 with
        | map _ es' hn hh =>
          split at e
          · rename_i r hr
            obtain ⟨r', q1, q2⟩ := findKey_sim h2 hn hh hr
            simp only [Option.some.injEq, Prod.mk.injEq] at e
            obtain ⟨rfl, rfl⟩ := e
            refine pure (v' := bif ok then .tup [r'.getD z, .bool r'.isSome] else r'.getD z) (by simp only [evI, hx', g2, q1]) ?_ rfl
            have := getD_VS hok.1 q2
            cases ok with
            | true => rw [q2.1]; exact .tup _ _ rfl (VSL.cons this (.cons (.eq _ rfl) .nil)).2
            | false => exact this
          · cases e
      · cases e
    · cases e
  | mapup ks m k v0 =>
    simp only [opOk, Bool.and_eq_true] at hok
    have h1 := cx_rel hf_ hok.1
    have h2 := cx_rel hf_ hok.2.1
    have h3 := cx_rel hf_ hok.2.2
    simp only [evI] at e
    split at e
    · rename_i b hx
      rw [hx] at h1
      obtain ⟨b', hx', hb⟩ := h1.map_inv
      obtain ⟨q, q', g1, g2, g3⟩ := hs.bx b b' hb
      rw [g1] at e
      split at e
      · rename_i es hk
        cases hk
        cases g3 with
        | map _ es' hn hh =>
          obtain ⟨r, hr, he⟩ := Option.map_eq_some_iff.1 e
          simp only [Prod.mk.injEq] at he
          obtain ⟨rfl, rfl⟩ := he
          obtain ⟨r', q1, q2, q3⟩ := putKey_sim h2 h3 hn hh hr
          exact ⟨W, .tup [], G.set b' (.map r'), by simp only [evI, hx', g2, q1, Option.map_some], .eq _ rfl, setb hb (.map r r' q2 q3) rfl, .refl W⟩
      · cases e
    · cases e
  | minmax mx x y =>
    simp only [opOk, Bool.and_eq_true] at hok
    have h1 := cx_rel hf_ hok.1
    have h2 := cx_rel hf_ hok.2
    simp only [evI] at e
    split at e
    · rename_i k a q b hx hy
      simp only [Option.some.injEq, Prod.mk.injEq] at e
      obtain ⟨rfl, rfl⟩ := e
      rw [hx] at h1
      rw [hy] at h2
      exact pure (by simp only [evI, h1.int_inv, h2.int_inv]) (.eq _ rfl) rfl
    · cases e
  | append _ _ _ _ => cases hok
  | call _ _ => cases hok
  | clear _ _ _ => cases hok
  | bad => cases hok
end Go.EV

/- The pure machine: freezing; slices made; what operations touch. -/
namespace Go.EV

/-! ## Freezing -/
def InZ (W : Wd) (bs : List Nat) : Prop := ∀ b, b ∈ bs → ∃ c, W.z b = some c
theorem gfL_frz_up {H : Hp} {n m : Nat} (h : n ≤ m) {l x : List AV} (e : optL (frz false H 0 n) l = some x) {W : Wd} (k : InZ W (l.flatMap (frzB H n))) : optL (frz false H 0 m) l = some x ∧ InZ W (l.flatMap (frzB H m)) := by
  obtain ⟨h1, h2⟩ := frzL_le h e
  exact ⟨h1, by rw [h2]; exact k⟩
/-- One value ahead of others. -/
theorem frz_cons {H : Hp} {W : Wd} {v w : AV} {vs ws : List AV} {n m : Nat} (h : frz false H 0 n v = some w) (hz : InZ W (frzB H n v)) (k : optL (frz false H 0 m) vs = some ws) (kz : InZ W (vs.flatMap (frzB H m))) :
    ∃ d, optL (frz false H 0 d) (v :: vs) = some (w :: ws) ∧ InZ W ((v :: vs).flatMap (frzB H d)) := by
  obtain ⟨h1, h2⟩ := frz_le (Nat.le_max_left n m) h
  obtain ⟨k1, k2⟩ := gfL_frz_up (Nat.le_max_right n m) k kz
  refine ⟨max n m, by simp only [optL, h1, k1, Option.map_some], fun b hb => ?_⟩
  rw [List.flatMap_cons, List.mem_append] at hb
  rcases hb with hb | hb
  · exact hz b (by rw [← h2]; exact hb)
  · exact k2 b hb
theorem frz_hf1 {H : Hp} {v : AV} (h : hf v = true) (h1 : v ≠ .nils) (h2 : v ≠ .emp) (h3 : ∀ cs, v ≠ .agg cs) (h4 : ∀ cs, v ≠ .tup cs) : frz false H 0 1 v = some v ∧ frzB H 1 v = [] := by
  cases v <;> first | (cases h; done) | exact absurd rfl h1 | exact absurd rfl h2 | exact absurd rfl (h3 _) | exact absurd rfl (h4 _) | exact ⟨by rw [frz, if_pos h] <;> simp, rfl⟩
mutual
theorem gf_frz {W : Wd} {H : Hp} : ∀ {v : AV}, gf v = true → ∃ d, frz false H 0 d v = some v ∧ InZ W (frzB H d v)
  | .agg cs, h => by
    simp only [gf] at h
    obtain ⟨d, h1, h2⟩ := gfL_frz (W := W) (H := H) h
    exact ⟨d + 1, by rw [frz, h1]; rfl, by rw [frzB]; exact h2⟩
  | .tup cs, h => by
    simp only [gf] at h
    obtain ⟨d, h1, h2⟩ := gfL_frz (W := W) (H := H) h
    exact ⟨d + 1, by rw [frz, h1]; rfl, by rw [frzB]; exact h2⟩
  | .bool b, h => have := frz_hf1 (H := H) (gf_hf h) (by simp) (by simp) (by simp) (by simp); ⟨1, this.1, by rw [this.2]; exact fun b hb => by cases hb⟩
  | .int k n, h => have := frz_hf1 (H := H) (gf_hf h) (by simp) (by simp) (by simp) (by simp); ⟨1, this.1, by rw [this.2]; exact fun b hb => by cases hb⟩
  | .str s, h => have := frz_hf1 (H := H) (gf_hf h) (by simp) (by simp) (by simp) (by simp); ⟨1, this.1, by rw [this.2]; exact fun b hb => by cases hb⟩
  | .nilp, h => have := frz_hf1 (H := H) (gf_hf h) (by simp) (by simp) (by simp) (by simp); ⟨1, this.1, by rw [this.2]; exact fun b hb => by cases hb⟩
  | .lst l, h => have := frz_hf1 (H := H) (gf_hf h) (by simp) (by simp) (by simp) (by simp); ⟨1, this.1, by rw [this.2]; exact fun b hb => by cases hb⟩
  | .nilm, h => have := frz_hf1 (H := H) (gf_hf h) (by simp) (by simp) (by simp) (by simp); ⟨1, this.1, by rw [this.2]; exact fun b hb => by cases hb⟩
  | .nilf, h => have := frz_hf1 (H := H) (gf_hf h) (by simp) (by simp) (by simp) (by simp); ⟨1, this.1, by rw [this.2]; exact fun b hb => by cases hb⟩
  | .nili, h => have := frz_hf1 (H := H) (gf_hf h) (by simp) (by simp) (by simp) (by simp); ⟨1, this.1, by rw [this.2]; exact fun b hb => by cases hb⟩
  | .err, h => have := frz_hf1 (H := H) (gf_hf h) (by simp) (by simp) (by simp) (by simp); ⟨1, this.1, by rw [this.2]; exact fun b hb => by cases hb⟩
  | .fn k cs, h => have := frz_hf1 (H := H) (gf_hf h) (by simp) (by simp) (by simp) (by simp); ⟨1, this.1, by rw [this.2]; exact fun b hb => by cases hb⟩
  | .iface t v, h => have := frz_hf1 (H := H) (gf_hf h) (by simp) (by simp) (by simp) (by simp); ⟨1, this.1, by rw [this.2]; exact fun b hb => by cases hb⟩
  | .und, h => by cases h
  | .ptr _ _, h => by cases h
  | .cptr _ _, h => by cases h
  | .nils, h => by cases h
  | .emp, h => by cases h
  | .sl _ _ _ _, h => by cases h
  | .map _, h => by cases h
  | .yld _, h => by cases h
  | .own _ _ _, h => by cases h
theorem gfL_frz {W : Wd} {H : Hp} : ∀ {cs : List AV}, gfL cs = true → ∃ d, optL (frz false H 0 d) cs = some cs ∧ InZ W (cs.flatMap (frzB H d))
  | [], _ => ⟨0, rfl, fun b hb => by cases hb⟩
  | v :: r, h => by
    simp only [gfL, Bool.and_eq_true] at h
    obtain ⟨d1, a1, a2⟩ := gf_frz (W := W) (H := H) h.1
    obtain ⟨d2, b1, b2⟩ := gfL_frz (W := W) (H := H) h.2
    exact frz_cons a1 a2 b1 b2
end
theorem frz_list {W : Wd} {H : Hp} : ∀ {cs cs' : List AV}, cs.length = cs'.length → (∀ (i : Nat) (v v' : AV), cs[i]? = some v → cs'[i]? = some v' → ∃ d, frz false H 0 d v' = some v ∧ InZ W (frzB H d v')) → ∃ d, optL (frz false H 0 d) cs' = some cs ∧ InZ W (cs'.flatMap (frzB H d))
  | [], [], _, _ => ⟨0, rfl, fun b hb => by cases hb⟩
  | v :: r, v' :: r', hn, h => by
    obtain ⟨d1, a1, a2⟩ := h 0 v v' rfl rfl
    obtain ⟨d2, b1, b2⟩ := frz_list (cs := r) (cs' := r') (by simpa using hn) (fun i v v' e1 e2 => h (i + 1) v v' (by simpa using e1) (by simpa using e2))
    exact frz_cons a1 a2 b1 b2
theorem frz_chunks {W : Wd} {H : Hp} {es : Nat} {cs : List AV} : ∀ (l : List (List AV)) (o : Nat), o + l.length * es ≤ cs.length → (∀ c, c ∈ l → c.length = es) →
    (∀ (i : Nat) (c : List AV) (j : Nat) (v v' : AV), l[i]? = some c → c[j]? = some v → cs[o + (i * es + j)]? = some v' → ∃ d, frz false H 0 d v' = some v ∧ InZ W (frzB H d v')) →
    ∃ d, optL (optL (frz false H 0 d)) (chunks es cs o l.length) = some l ∧ InZ W ((chunks es cs o l.length).flatten.flatMap (frzB H d))
  | [], o, _, _, _ => ⟨0, rfl, fun b hb => by cases hb⟩
  | c :: r, o, hl, he, h => by
    have hc := he c (List.mem_cons_self ..)
    have hl' : o + es + r.length * es ≤ cs.length := by simp only [List.length_cons, Nat.add_mul] at hl; omega
    obtain ⟨d1, a1, a2⟩ := frz_list (W := W) (H := H) (cs := c) (cs' := (cs.drop o).take es) (by simp; omega) (fun i v v' e1 e2 => by
      rw [List.getElem?_take] at e2
      split at e2
      · rw [List.getElem?_drop] at e2
        exact h 0 c i v v' rfl e1 (by rw [← e2]; congr 1; omega)
      · cases e2)
    obtain ⟨d2, b1, b2⟩ := frz_chunks r (o + es) hl' (fun c hc => he c (List.mem_cons_of_mem _ hc)) (fun i c j v v' e1 e2 e3 => h (i + 1) c j v v' (by simpa using e1) e2 (by rw [← e3, Nat.add_mul]; congr 1; omega))
    obtain ⟨q1, q2⟩ := gfL_frz_up (Nat.le_max_left d1 d2) a1 a2
    refine ⟨max d1 d2, ?_, fun b hb => ?_⟩
    · simp only [List.length_cons, chunks, optL, q1]
      rw [optL_more (fun a _ x hx => (frzL_le (Nat.le_max_right d1 d2) hx).1) b1]
      rfl
    · simp only [List.length_cons, chunks, List.flatten_cons, List.flatMap_append, List.mem_append] at hb
      rcases hb with hb | hb
      · exact q2 b hb
      · refine b2 b ?_
        rw [← flatMap_same (fun a ha => ?_)]
        · exact hb
        · obtain ⟨c', hc', hac⟩ := List.mem_flatten.1 ha
          obtain ⟨x, hx⟩ := optL_mem b1 c' hc'
          obtain ⟨y, hy⟩ := optL_mem hx a hac
          exact (frz_le (Nat.le_max_right d1 d2) hy).2
/-- What is told of a value is what freezing makes of the other. -/
theorem VS.frz {W : Wd} {H G : Hp} (hs : Sm W H G) {v v' : AV} (h : VS W v v') : gf v = true → ∃ d, EV.frz false G 0 d v' = some v ∧ InZ W (frzB G d v') := by
  induction h with
  | und v => intro g; cases g
  | eq v h => exact gf_frz
  | lnil => intro _; exact ⟨1, rfl, fun b hb => by cases hb⟩
  | lemp => intro _; exact ⟨1, rfl, fun b hb => by cases hb⟩
  | ownn s ty => intro g; cases g
  | owne s ty => intro g; cases g
  | zst es l b o cs hz hl hq he h ih =>
    intro _
    obtain ⟨st, ty, hb⟩ := hs.rz b cs hz
    obtain ⟨d, h1, h2⟩ := frz_chunks (W := W) (H := G) (es := es) (cs := cs) l o hl he fun i c j v v' e1 e2 e3 => ih i c j v v' e1 e2 e3 (gfL_at (hq c (List.mem_of_getElem? e1)) e2)
    refine ⟨d + 1, by simp only [EV.frz, Nat.zero_le, if_true, hb, if_pos hl, h1, Option.map_some], fun x hx => ?_⟩
    simp only [frzB, hb, List.mem_cons] at hx
    rcases hx with rfl | hx
    · exact ⟨cs, hz⟩
    · exact h2 x hx
  | zptr cs0 o b d cs hz hl hq h ih => intro g; cases g
  | ptr b o b' h => intro g; cases g
  | own s t h hn => intro g; cases g
  | map b b' h => intro g; cases g
  | yld b b' h => intro g; cases g
  | fn k cs cs' hn h ih =>
    intro g
    have g0 := g
    simp only [gf, Bool.and_eq_true] at g
    rw [rgL_eq g.1 ⟨hn, h⟩]
    exact gf_frz g0
  | iface t v v' h ih =>
    intro g
    have g0 := g
    simp only [gf, Bool.and_eq_true] at g
    rw [rg_eq g.1 h]
    exact gf_frz g0
  | agg cs cs' hn h ih =>
    intro g
    obtain ⟨d, h1, h2⟩ := frz_list (W := W) (H := G) hn fun i v v' e1 e2 => ih i v v' e1 e2 (gfL_at (by simpa only [gf] using g) e1)
    exact ⟨d + 1, by rw [EV.frz, h1]; rfl, by rw [frzB]; exact h2⟩
  | tup cs cs' hn h ih =>
    intro g
    obtain ⟨d, h1, h2⟩ := frz_list (W := W) (H := G) hn fun i v v' e1 e2 => ih i v v' e1 e2 (gfL_at (by simpa only [gf] using g) e1)
    exact ⟨d + 1, by rw [EV.frz, h1]; rfl, by rw [frzB]; exact h2⟩
theorem VSL.frz {W : Wd} {H G : Hp} (hs : Sm W H G) {cs cs' : List AV} (h : VSL W cs cs') (g : gfL cs = true) : ∃ d, optL (EV.frz false G 0 d) cs' = some cs ∧ InZ W (cs'.flatMap (frzB G d)) :=
  frz_list h.1 fun i v v' e1 e2 => (h.2 i v v' e1 e2).frz hs (gfL_at g e1)
/-- Blocks that are turned no more are marked. -/
theorem markRo_nth {G : Hp} {b c : Nat} : (markRo G b)[c]? = G[c]? ∨ c = b ∧ ∃ st ty cs, G[b]? = some (.cells st ty cs) ∧ (markRo G b)[c]? = some (.cells 0 ty cs) := by
  unfold markRo
  split
  · rename_i st ty cs hb
    by_cases e : b = c
    · subst e
      exact .inr ⟨rfl, st, ty, cs, hb, List.getElem?_set_self (List.getElem?_eq_some_iff.1 hb).1⟩
    · exact .inl (List.getElem?_set_ne e)
  · exact .inl rfl
theorem Sm.mark {W : Wd} {H G : Hp} (h : Sm W H G) : ∀ (bs : List Nat), InZ W bs → Sm W H (bs.foldl markRo G) ∧ (∀ b, W.z b = none → (bs.foldl markRo G)[b]? = G[b]?) ∧ (bs.foldl markRo G).length = G.length := by
  intro bs
  induction bs generalizing G with
  | nil => intro _; exact ⟨h, fun _ _ => rfl, rfl⟩
  | cons b r ih =>
    intro hz
    obtain ⟨c, hc⟩ := hz b (List.mem_cons_self ..)
    have keep : ∀ x, W.z x = none → (markRo G b)[x]? = G[x]? := fun x hx => by
      rcases markRo_nth (G := G) (b := b) (c := x) with e | ⟨rfl, _⟩
      · exact e
      · rw [hc] at hx; cases hx
    have h1 : Sm W H (markRo G b) := by
      refine ⟨fun x x' e => ?_, h.bi, fun s t e => (h.tk s t e).heap (keep _ (h.zt s t e)), h.ti, h.tb, fun x cs e => ?_, h.zb, h.zt⟩
      · obtain ⟨k, k', e1, e2, e3⟩ := h.bx x x' e
        exact ⟨k, k', e1, by rw [keep x' (h.zb x x' e)]; exact e2, e3⟩
      · obtain ⟨st, ty, e1⟩ := h.rz x cs e
        rcases markRo_nth (G := G) (b := b) (c := x) with e2 | ⟨rfl, st', ty', cs', e2, e3⟩
        · exact ⟨st, ty, e2.trans e1⟩
        · rw [e1] at e2
          cases e2
          exact ⟨0, ty, e3⟩
    have hlen : (markRo G b).length = G.length := by
      unfold markRo
      split
      · rw [List.length_set]
      · rfl
    obtain ⟨q1, q2, q3⟩ := ih h1 fun x hx => hz x (List.mem_cons_of_mem _ hx)
    exact ⟨q1, fun x hx => (q2 x hx).trans (keep x hx), q3.trans hlen⟩

/-! ## Values made fit to be frozen -/
mutual
def nf : AV → AV
  | .own _ _ _ => .und
  | .nils => .lst []
  | .emp => .lst []
  | .agg cs => .agg (nfL cs)
  | .tup cs => .tup (nfL cs)
  | v => v
def nfL : List AV → List AV
  | [] => []
  | v :: r => nf v :: nfL r
end
mutual
theorem nf_VS {W : Wd} : ∀ {v v' : AV}, VS W v v' → VS W (nf v) v'
  | .own _ _ _, _, _ => .und _
  | .nils, _, h => by cases h; exact .lnil
  | .emp, _, h => by cases h; exact .lemp
  | .agg cs, _, h => by obtain ⟨cs', rfl, k⟩ := h.agg_inv; have := nfL_VS k; exact .agg _ _ this.1 this.2
  | .tup cs, _, h => by obtain ⟨cs', rfl, k⟩ := h.tup_inv; have := nfL_VS k; exact .tup _ _ this.1 this.2
  | .und, _, h => h
  | .bool _, _, h => h
  | .int _ _, _, h => h
  | .str _, _, h => h
  | .nilp, _, h => h
  | .ptr _ _, _, h => h
  | .cptr _ _, _, h => h
  | .lst _, _, h => h
  | .sl _ _ _ _, _, h => h
  | .nilm, _, h => h
  | .map _, _, h => h
  | .nilf, _, h => h
  | .fn _ _, _, h => h
  | .yld _, _, h => h
  | .nili, _, h => h
  | .iface _ _, _, h => h
  | .err, _, h => h
theorem nfL_VS {W : Wd} : ∀ {cs cs' : List AV}, VSL W cs cs' → VSL W (nfL cs) cs'
  | [], _, h => by rw [h.nil_inv]; exact .nil
  | v :: r, _, h => by
    obtain ⟨v', r', rfl, h1, h2⟩ := h.cons_inv
    exact .cons (nf_VS h1) (nfL_VS h2)
end
mutual
/-- The growing slices in a value. -/
def toks : AV → List Nat
  | .own s _ _ => [s]
  | .fn _ cs => toksL cs
  | .iface _ v => toks v
  | .agg cs => toksL cs
  | .tup cs => toksL cs
  | _ => []
def toksL : List AV → List Nat
  | [] => []
  | v :: r => toks v ++ toksL r
end
def memN (l : List Nat) (x : Nat) : Bool := l.any (Nat.beq x)
/-- A value frozen where it stands: the slices it leads to grow no more. -/
def frS (cs : List AV) : Nat → Bool := memN (toksL cs)
def frV (S : Nat → Bool) (cs : List AV) : List AV := nfL (mtL (rtS S) cs)
theorem frV_VS {W : Wd} {H G : Hp} (hs : Sm W H G) {cs cs' : List AV} (h : VSL W cs cs') (S : Nat → Bool) : VSL (W.ret S G) (frV S cs) cs' := nfL_VS (h.go (ret_goes hs S))

/-! ## Blocks of slices made -/
theorem gfL_of {cs : List AV} (h : ∀ (i : Nat) (v : AV), cs[i]? = some v → gf v = true) : gfL cs = true := by
  induction cs with
  | nil => rfl
  | cons v r ih =>
    simp only [gfL, Bool.and_eq_true]
    exact ⟨h 0 v rfl, ih fun i v e => h (i + 1) v (by simpa using e)⟩
theorem tk_lit {W : Wd} {G : Hp} {es ty b n : Nat} {cs cs' : List AV} (hn : n ≠ 0) (hg : gfL cs = true) (hl : cs.length = n * es) (hb : G[b]? = some (.cells 1 ty cs')) (h : VSL W cs cs') : TkOk W G ⟨es, ty, b, chunks es cs 0 n⟩ := by
  have hget : ∀ i c, (chunks es cs 0 n)[i]? = some c → i < n ∧ c = (cs.drop (i * es)).take es := fun i c e => by
    have hi := (List.getElem?_eq_some_iff.1 e).1
    rw [chunks_len] at hi
    rw [chunks_nth n 0 i hi] at e
    cases e
    exact ⟨hi, by rw [Nat.zero_add]⟩
  have hmul : ∀ i, i < n → i * es + es ≤ n * es := fun i hi => by rw [← Nat.succ_mul]; exact Nat.mul_le_mul_right _ hi
  refine ⟨fun e => hn ?_, fun c hc => ?_, fun c hc => ?_, cs', hb, by rw [← h.1, hl, chunks_len], fun i c j v v' e1 e2 e3 => ?_⟩
  · have e : chunks es cs 0 n = [] := e
    rw [← chunks_len (es := es) (cs := cs) n 0, e]; rfl
  · obtain ⟨i, hi⟩ := List.getElem?_of_mem hc
    obtain ⟨_, rfl⟩ := hget i c hi
    refine gfL_of fun j v e => ?_
    rw [List.getElem?_take] at e
    split at e
    · rw [List.getElem?_drop] at e; exact gfL_at hg e
    · cases e
  · obtain ⟨i, hi⟩ := List.getElem?_of_mem hc
    obtain ⟨h1, rfl⟩ := hget i c hi
    have := hmul i h1
    simp; omega
  · obtain ⟨h1, rfl⟩ := hget i c e1
    rw [List.getElem?_take] at e2
    split at e2
    · rw [List.getElem?_drop] at e2
      exact h.2 (i * es + j) v v' e2 e3
    · cases e2
end Go.EV
