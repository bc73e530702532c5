/- Pull trees, as data. -/
import Derived.Test.YtkcabichlinkmaaGreatDoorHMM
import Derived.Test.YtkcabichlinkmaaGreatDoorHEn1
namespace Go.EV
mutual
inductive Lf where
  | mk (k n : Int) (s : List Nat) (i : Bool) (t : List Br)
inductive Br where
  | mk (a : List Nat) (b : Bool) (l : List Lf)
end
mutual
def Lf.av : Lf → List AV
  | .mk k n s i t => [.int .i64 k, .int .i64 n, .str s, .bool i, .lst (Br.avs t)]
def Br.av : Br → List AV
  | .mk a b l => [.str a, .bool b, .lst (Lf.avs l)]
def Lf.avs : List Lf → List (List AV)
  | [] => []
  | x :: r => x.av :: Lf.avs r
def Br.avs : List Br → List (List AV)
  | [] => []
  | x :: r => x.av :: Br.avs r
end
theorem Lf.avs_map : ∀ l, Lf.avs l = l.map Lf.av
  | [] => rfl
  | x :: r => by rw [Lf.avs, Lf.avs_map r]; rfl
theorem Br.avs_map : ∀ l, Br.avs l = l.map Br.av
  | [] => rfl
  | x :: r => by rw [Br.avs, Br.avs_map r]; rfl
theorem Lf.at {l : List Lf} {i : Nat} {k n : Int} {s : List Nat} {j : Bool} {t : List Br} (h : l[i]? = some (.mk k n s j t)) : (Lf.avs l)[i]? = some [.int .i64 k, .int .i64 n, .str s, .bool j, .lst (Br.avs t)] := by rw [Lf.avs_map, List.getElem?_map, h]; rfl
theorem Br.at {l : List Br} {i : Nat} {a : List Nat} {b : Bool} {ls : List Lf} (h : l[i]? = some (.mk a b ls)) : (Br.avs l)[i]? = some [.str a, .bool b, .lst (Lf.avs ls)] := by rw [Br.avs_map, List.getElem?_map, h]; rfl
theorem Lf.len (l : List Lf) : (Lf.avs l).length = l.length := by rw [Lf.avs_map, List.length_map]
theorem Br.len (l : List Br) : (Br.avs l).length = l.length := by rw [Br.avs_map, List.length_map]
end Go.EV
namespace Go.EV
def mx63 : Nat := 9223372036854775807
mutual
/-- No slice is longer than a slice may be. -/
def Lf.sm : Lf → Prop
  | .mk _ _ s _ t => t.length ≤ mx63 ∧ Br.sms t ∧ s.length ≤ mx63
def Br.sm : Br → Prop
  | .mk a _ l => l.length ≤ mx63 ∧ Lf.sms l ∧ a.length ≤ mx63
def Lf.sms : List Lf → Prop
  | [] => True
  | x :: r => x.sm ∧ Lf.sms r
def Br.sms : List Br → Prop
  | [] => True
  | x :: r => x.sm ∧ Br.sms r
end
theorem Lf.sms_at : ∀ {l : List Lf} {i : Nat} {x : Lf}, Lf.sms l → l[i]? = some x → x.sm
  | [], i, x, _, h => by simp at h
  | y :: r, 0, x, h, e => by simp at e; subst e; exact h.1
  | y :: r, i + 1, x, h, e => Lf.sms_at h.2 (by simpa using e)
theorem Br.sms_at : ∀ {l : List Br} {i : Nat} {x : Br}, Br.sms l → l[i]? = some x → x.sm
  | [], i, x, _, h => by simp at h
  | y :: r, 0, x, h, e => by simp at e; subst e; exact h.1
  | y :: r, i + 1, x, h, e => Br.sms_at h.2 (by simpa using e)
theorem sub_lt {ts : List Br} {i : Nat} {a : List Nat} {b : Bool} {ls : List Lf} {k : Nat} {kd n : Int} {s : List Nat} {j : Bool} {t : List Br} (h : ts[i]? = some (.mk a b ls)) (h2 : ls[k]? = some (.mk kd n s j t)) : SizeOf.sizeOf t < SizeOf.sizeOf ts := by
  have h1 := List.sizeOf_lt_of_mem (List.mem_of_getElem? h)
  have h3 := List.sizeOf_lt_of_mem (List.mem_of_getElem? h2)
  simp only [Br.mk.sizeOf_spec, Lf.mk.sizeOf_spec] at h1 h3
  omega
theorem bytesAV_at {s : List Nat} {i b : Nat} (h : s[i]? = some b) : (bytesAV s)[i]? = some [.int .u8 (Int.ofNat b)] := by unfold bytesAV; rw [List.getElem?_map, h]; rfl
theorem bytesAV_len (s : List Nat) : (bytesAV s).length = s.length := by unfold bytesAV; rw [List.length_map]
end Go.EV

/- The environment of the open contracts. -/
namespace Go.EV
def x3 (k : Nat) : Bool := Nat.beq k 61 || Nat.beq k 98 || Nat.beq k 142 || Nat.beq k 141 || Nat.beq k 182 || Nat.beq k 139 || Nat.beq k 97 || Nat.beq k 107 || Nat.beq k 154 || Nat.beq k 96 || Nat.beq k 62 || Nat.beq k 100 || Nat.beq k 63 || Nat.beq k 78 || Nat.beq k 37 || Nat.beq k 36 || Nat.beq k 33 || Nat.beq k 34
def E3 (fs : Nat → Option CF) (pr : Nat → List AV → Hp → Option (AV × Hp)) : Env := { fs := fs, pr := pr, quiet := fun k => quietS k || x3 k }
theorem Cl.prim {E : Env} {k : Nat} {as caps : List AV} {H H1 : Hp} {v : AV} (h : E.pr k (as ++ caps) H = some (v, H1)) : Cl E (.fn k caps) as H v H1 := by
  refine ⟨1, ?_⟩
  rw [ev_succ]
  simp only [evStep, h]
end Go.EV

/- May a tree be written: in plain Lean. -/
namespace Go.EV
/-- What two functions say of values and of branches. -/
structure Ck where
  chk : Int → Int → List Nat → Int
  cmp : Br → Br → Int
def badCmp (q : Ck) (pv : Option Br) (x : Br) : Bool := match pv with | some p => decide (q.cmp p x ≥ 0) | none => false
abbrev wr (n : Int) : Int := IntKind.i64.wrap n
mutual
def mayLs (q : Ck) (d : Int) : List Lf → Int → Bool × Int
  | [], n => (true, n)
  | .mk k m s i t :: r, n =>
    if wr (n + 1) > 1000 then (false, wr (n + 1))
    else if q.chk k m s ≠ 0 then (false, wr (n + 1))
    else match i with
      | false => if t.length > 0 then (false, wr (n + 1)) else mayLs q d r (wr (n + 1))
      | true => if k ≠ 5 then (false, wr (n + 1)) else
        match mayT q (wr (d + 1)) t (wr (n + 1)) with
        | (true, n') => mayLs q d r n'
        | (false, n') => (false, n')
def mayBs (q : Ck) (d : Int) : Option Br → List Br → Int → Bool × Int
  | _, [], n => (true, n)
  | pv, .mk a b l :: r, n =>
    if l.length = 0 then (false, n) else if q.chk 7 0 a ≠ 0 then (false, n)
    else if badCmp q pv (.mk a b l) then (false, n)
    else match mayLs q d l n with
      | (true, n') => mayBs q d (some (.mk a b l)) r n'
      | (false, n') => (false, n')
def mayT (q : Ck) (d : Int) (ts : List Br) (n : Int) : Bool × Int :=
  if d > 20 then (false, n) else mayBs q d none ts n
end
end Go.EV

/- Heaps that lead below a place. -/
namespace Go.EV
mutual
theorem low_mono {n m : Nat} (h : n ≤ m) : ∀ v : AV, low n v = true → low m v = true
  | .und, _ => rfl
  | .bool _, _ => rfl
  | .int _ _, _ => rfl
  | .str _, _ => rfl
  | .nilp, _ => rfl
  | .ptr _ _, k => by simp only [low, decide_eq_true_eq] at k ⊢; omega
  | .cptr _ _, _ => rfl
  | .nils, _ => rfl
  | .emp, _ => rfl
  | .lst _, _ => rfl
  | .sl _ _ _ _, k => by simp only [low, decide_eq_true_eq] at k ⊢; omega
  | .nilm, _ => rfl
  | .map _, k => by simp only [low, decide_eq_true_eq] at k ⊢; omega
  | .nilf, _ => rfl
  | .fn _ cs, k => by simp only [low] at k ⊢; exact lowL_mono h cs k
  | .yld _, k => by simp only [low, decide_eq_true_eq] at k ⊢; omega
  | .nili, _ => rfl
  | .iface _ v, k => by simp only [low] at k ⊢; exact low_mono h v k
  | .err, _ => rfl
  | .agg cs, k => by simp only [low] at k ⊢; exact lowL_mono h cs k
  | .tup cs, k => by simp only [low] at k ⊢; exact lowL_mono h cs k
  | .own _ _ _, _ => rfl
theorem lowL_mono {n m : Nat} (h : n ≤ m) : ∀ l : List AV, lowL n l = true → lowL m l = true
  | [], _ => rfl
  | v :: r, k => by
    simp only [lowL, Bool.and_eq_true] at k ⊢
    exact ⟨low_mono h v k.1, lowL_mono h r k.2⟩
end
theorem lowT_mono {n m : Nat} (h : n ≤ m) : ∀ f : Fr, lowT n f = true → lowT m f = true
  | .leaf, _ => rfl
  | .node l x r, k => by
    simp only [lowT, Bool.and_eq_true] at k ⊢
    exact ⟨lowT_mono h l k.1, low_mono h x k.2.1, lowT_mono h r k.2.2⟩
theorem blkLow_mono {n m : Nat} (h : n ≤ m) (k : Blk) (hk : blkLow n k = true) : blkLow m k = true := by
  cases k with
  | cells st ty cs => exact lowL_mono h cs hk
  | dead => rfl
  | map es =>
    simp only [blkLow, List.all_eq_true, Bool.and_eq_true] at hk ⊢
    exact fun p hp => ⟨low_mono h _ (hk p hp).1, low_mono h _ (hk p hp).2⟩
  | loop st e f ps a b => exact lowT_mono h f hk
/-- Every block leads below n. -/
def Lows (n : Nat) (H : Hp) : Prop := ∀ k, k ∈ H → blkLow n k = true
theorem Lows.heap {n : Nat} {H : Hp} (h : Lows n H) (m : Nat) : (H.take m).all (blkLow n) = true := by
  rw [List.all_eq_true]
  exact fun k hk => h k (List.mem_of_mem_take hk)
theorem Lows.mono {n m : Nat} {H : Hp} (h : Lows n H) (hn : n ≤ m) : Lows m H := fun k hk => blkLow_mono hn k (h k hk)
theorem Lows.app {n : Nat} {H L : Hp} (h : Lows n H) (h2 : Lows n L) : Lows n (H ++ L) := fun k hk => by
  rcases List.mem_append.1 hk with e | e
  · exact h k e
  · exact h2 k e
theorem Lows.set {n b : Nat} {H : Hp} {x : Blk} (h : Lows n H) (hx : blkLow n x = true) : Lows n (H.set b x) := fun k hk => by
  rcases List.mem_or_eq_of_mem_set hk with e | e
  · exact h k e
  · rw [e]; exact hx
theorem Lows.of {n : Nat} {H : Hp} (h : H.all (blkLow n) = true) : Lows n H := by
  rw [List.all_eq_true] at h
  exact h
/-- The heap so far: as it was but for the count at b; behind it what leads nowhere. -/
structure Mi (H0 : Hp) (b : Nat) (C : Hp) (n : Int) : Prop where
  lt : b < H0.length
  len : H0.length ≤ C.length
  old : ∀ c, c < H0.length → c ≠ b → C[c]? = H0[c]?
  at_ : C[b]? = some (.cells 1 3 [.int .i64 n])
  low : Lows 0 C
theorem Mi.start {H : Hp} {b : Nat} {n : Int} (h : H[b]? = some (.cells 1 3 [.int .i64 n])) (hl : Lows 0 H) : Mi H b H n :=
  ⟨(List.getElem?_eq_some_iff.1 h).1, Nat.le_refl _, fun _ _ _ => rfl, h, hl⟩
theorem Mi.app {H0 C : Hp} {b : Nat} {n : Int} (h : Mi H0 b C n) (L : Hp) (hL : L.all (blkLow 0) = true) : Mi H0 b (C ++ L) n := by
  have := h.lt
  have := h.len
  refine ⟨h.lt, by rw [List.length_append]; omega, fun c hc hne => ?_, ?_, h.low.app (Lows.of hL)⟩
  · rw [List.getElem?_append_left (by omega)]; exact h.old c hc hne
  · rw [List.getElem?_append_left (by omega)]; exact h.at_
theorem Mi.set {H0 C : Hp} {b : Nat} {n : Int} (h : Mi H0 b C n) (n' : Int) : Mi H0 b (C.set b (.cells 1 3 [.int .i64 n'])) n' := by
  have := h.lt
  have := h.len
  exact ⟨h.lt, by rw [List.length_set]; exact h.len, fun c hc hne => by rw [List.getElem?_set_ne (fun e => hne e.symm)]; exact h.old c hc hne, List.getElem?_set_self (by omega), h.low.set rfl⟩
theorem Mi.fin {H0 C : Hp} {b : Nat} {n : Int} (h : Mi H0 b C n) : heapLow C H0.length = true ∧ C.take H0.length = H0.set b (.cells 1 3 [.int .i64 n]) := by
  refine ⟨(h.low.mono (Nat.zero_le _)).heap _, ?_⟩
  apply List.ext_getElem?
  intro c
  rw [List.getElem?_take]
  by_cases hc : c < H0.length
  · rw [if_pos hc]
    by_cases e : c = b
    · subst e; rw [List.getElem?_set_self hc]; exact h.at_
    · rw [List.getElem?_set_ne (fun k => e k.symm)]; exact h.old c hc e
  · rw [if_neg hc, List.getElem?_eq_none (by rw [List.length_set]; omega)]
end Go.EV

/- Trees as nodes, in plain Lean; freezing that holds whatever happens to other blocks. -/
namespace Go.EV
abbrev nd (k vk vn : Int) (vs s : List Nat) (ks : List (List AV)) : List AV := [.int .i64 k, .int .i64 vk, .int .i64 vn, .str vs, .str s, .lst ks, .int .i64 0, .int .i64 0]
abbrev sd (k n : Int) (s : List Nat) : List AV := nd 1 k n s [] []
def hdOf (a : List Nat) (b : Bool) : List AV := bif b then nd 3 0 0 [] [] [sd 7 0 a, nd 2 0 0 [] [98, 97, 99, 107] []] else sd 7 0 a
mutual
def Lf.nd : Lf → List AV
  | .mk k n s i t => bif i then EV.nd 3 0 0 [] [] [sd k n s, EV.nd 5 0 0 [] [] (Br.nds t)] else sd k n s
def Br.nd2 : Br → List (List AV)
  | .mk a b l => [hdOf a b, EV.nd 4 0 0 [] [] (Lf.nds l)]
def Lf.nds : List Lf → List (List AV)
  | [] => []
  | x :: r => x.nd :: Lf.nds r
def Br.nds : List Br → List (List AV)
  | [] => []
  | x :: r => x.nd2 ++ Br.nds r
end
abbrev nodeOf (ts : List Br) : List AV := nd 5 0 0 [] [] (Br.nds ts)
theorem Lf.nds_map : ∀ l, Lf.nds l = l.map Lf.nd
  | [] => rfl
  | x :: r => by rw [Lf.nds, Lf.nds_map r]; rfl
theorem Br.nds_map : ∀ l, Br.nds l = l.flatMap Br.nd2
  | [] => rfl
  | x :: r => by rw [Br.nds, Br.nds_map r]; rfl

/-! ## Freezing -/
/-- But for the blocks of M, the one heap holds what the other does. -/
def Ag (M : Nat → Prop) (C C' : Hp) : Prop := ∀ c k, ¬ M c → C[c]? = some k → C'[c]? = some k
theorem Ag.refl (M : Nat → Prop) (C : Hp) : Ag M C C := fun _ _ _ h => h
theorem Ag.trans {M : Nat → Prop} {A B C : Hp} (h : Ag M A B) (k : Ag M B C) : Ag M A C := fun c x hc e => k c x hc (h c x hc e)
theorem Ag.weak {M M' : Nat → Prop} {A B : Hp} (h : Ag M A B) (hm : ∀ c, c < A.length → M c → M' c) : Ag M' A B := fun c x hc e => h c x (fun k => hc (hm c (List.getElem?_eq_some_iff.1 e).1 k)) e
/-- It freezes so, whatever happens to the blocks of M. -/
def FzL (C : Hp) (M : Nat → Prop) (n : Nat) (vs ws : List AV) : Prop := ∀ C', Ag M C C' → optL (frz false C' 0 n) vs = some ws
def FzV (C : Hp) (M : Nat → Prop) (n : Nat) (v w : AV) : Prop := ∀ C', Ag M C C' → frz false C' 0 n v = some w
def FzB (C : Hp) (M : Nat → Prop) (n es : Nat) (cs : List AV) (len : Nat) (ws : List (List AV)) : Prop := ∀ C', Ag M C C' → optL (optL (frz false C' 0 n)) (chunks es cs 0 len) = some ws
theorem ag_step {C C1 C' : Hp} {M M1 : Nat → Prop} (h1 : Ag M C C1) (hm : ∀ c, c < C.length → M1 c → M c) (h : Ag M1 C1 C') : Ag M C C' := fun c k hc e =>
  h c k (fun m => hc (hm c (List.getElem?_eq_some_iff.1 e).1 m)) (h1 c k hc e)
theorem FzV.step {C C1 : Hp} {M M1 : Nat → Prop} {n : Nat} {v w : AV} (h : FzV C M n v w) (h1 : Ag M C C1) (hm : ∀ c, c < C.length → M1 c → M c) : FzV C1 M1 n v w := fun C' k => h C' (ag_step h1 hm k)
theorem FzB.step {C C1 : Hp} {M M1 : Nat → Prop} {n es len : Nat} {cs : List AV} {ws : List (List AV)} (h : FzB C M n es cs len ws) (h1 : Ag M C C1) (hm : ∀ c, c < C.length → M1 c → M c) : FzB C1 M1 n es cs len ws := fun C' k => h C' (ag_step h1 hm k)
theorem optL_app {α β : Type} {g : α → Option β} : ∀ {a b : List α} {x y : List β}, optL g a = some x → optL g b = some y → optL g (a ++ b) = some (x ++ y)
  | [], b, x, y, h, k => by
    simp only [optL, Option.some.injEq] at h
    subst h; exact k
  | v :: r, b, x, y, h, k => by
    simp only [optL] at h
    split at h
    · rename_i w hw
      obtain ⟨z, hz, rfl⟩ := Option.map_eq_some_iff.1 h
      simp only [List.cons_append, optL, hw, optL_app hz k, Option.map_some]
    · cases h
theorem chunks_app {es : Nat} {a b : List AV} : ∀ (n o : Nat), o + n * es ≤ a.length → chunks es (a ++ b) o n = chunks es a o n
  | 0, _, _ => rfl
  | n + 1, o, h => by
    have h2 : o + es + n * es ≤ a.length := by rw [Nat.add_mul] at h; omega
    simp only [chunks]
    rw [chunks_app n (o + es) h2]
    congr 1
    rw [List.drop_append_of_le_length (by omega), List.take_append_of_le_length (by rw [List.length_drop]; omega)]
theorem chunks_add {es : Nat} {cs : List AV} : ∀ (n m o : Nat), chunks es cs o (n + m) = chunks es cs o n ++ chunks es cs (o + n * es) m
  | 0, m, o => by simp [chunks]
  | n + 1, m, o => by
    rw [show n + 1 + m = (n + m) + 1 by omega]
    simp only [chunks, List.cons_append]
    rw [chunks_add n m (o + es), show o + es + n * es = o + (n + 1) * es by rw [Nat.add_mul]; omega]
/-- One more element. -/
theorem FzB.snoc {C : Hp} {M : Nat → Prop} {n es len : Nat} {cs e w : List AV} {ws : List (List AV)} (h : FzB C M n es cs len ws) (hl : cs.length = len * es) (he : e.length = es) (h2 : FzL C M n e w) : FzB C M n es (cs ++ e) (len + 1) (ws ++ [w]) := by
  intro C' k
  rw [chunks_add, chunks_app len 0 (by omega)]
  refine optL_app (h C' k) ?_
  simp only [chunks, Nat.zero_add]
  rw [← hl, List.drop_left, ← he, List.take_length]
  simp only [optL, h2 C' k, Option.map_some]
theorem FzB.nil {C : Hp} {M : Nat → Prop} {n es : Nat} {cs : List AV} : FzB C M n es cs 0 [] := fun _ _ => rfl
theorem FzV.sl {C : Hp} {M : Nat → Prop} {n es b len st ty : Nat} {cs : List AV} {ws : List (List AV)} (hb : C[b]? = some (.cells st ty cs)) (hm : ¬ M b) (hl : len * es ≤ cs.length) (h : FzB C M n es cs len ws) : FzV C M (n + 1) (.sl es b 0 len) (.lst ws) := by
  intro C' k
  simp only [frz, Nat.zero_le, if_true, k b _ hm hb, Nat.zero_add, if_pos hl, h C' k, Option.map_some]
end Go.EV
