/- Functions whose answers are told: what they answer. -/
import Derived.Test.YtkcabichlinkmaaGreatDoorHM1
import Derived.Lib.ParseIntB
import Derived.Lib.ItoaNum
import Derived.Lib.IndexMore
import Derived.Test.YtkcabichlinkmaaGreatDoorHM5
import Derived.Below
import Derived.Sort.Grow
namespace Go.EV
def goI (n : Int) : AV := .int .i64 n
def mxIdx : Nat := 4294967280
def idxByte (c : Nat) : List Nat → Option Nat
  | [] => none
  | b :: r => if b = c then some 0 else (idxByte c r).map (· + 1)
def isPre : List Nat → List Nat → Bool
  | [], _ => true
  | _ :: _, [] => false
  | a :: x, b :: y => decide (a = b) && isPre x y
def idxSub (t : List Nat) : List Nat → Option Nat
  | [] => if t.isEmpty then some 0 else none
  | b :: r => if isPre t (b :: r) then some 0 else (idxSub t r).map (· + 1)
def optI : Option Nat → AV
  | some n => goI (Int.ofNat n)
  | none => goI (-1)
def toU8 (s : List Nat) : List UInt8 := s.map UInt8.ofNat
/-- strconv.ParseInt(s, 10, 64): the number; is there an error. -/
def parseI (s : List Nat) : Int × Bool := match Lib.parseIntB 64 (toU8 s) with
  | .ok v => (v, false)
  | .range => (Lib.intSat 64 (toU8 s), true)
  | _ => (0, true)
def digs : Nat → Nat → List Nat → List Nat
  | 0, _, acc => acc
  | f + 1, n, acc => if n < 10 then (48 + n) :: acc else digs f (n / 10) ((48 + n % 10) :: acc)
def fmtI (n : Int) : List Nat := match n with | .ofNat n => digs 20 n [] | .negSucc n => 45 :: digs 20 (n + 1) []
def cmpS (a b : List Nat) : Int := if bytesLt a b then -1 else if a = b then 0 else 1
def pIndexByte : List AV → Option AV
  | [.str s, .int .u8 (.ofNat c)] => if c < 256 then some (optI (idxByte c s)) else none
  | _ => none
def pIndex : List AV → Option AV
  | [.str s, .str t] => if s.length ≤ mxIdx then some (optI (idxSub t s)) else none
  | _ => none
def pContains : List AV → Option AV
  | [.str s, .str t] => if s.length ≤ mxIdx then some (.bool (idxSub t s).isSome) else none
  | _ => none
def pCompare : List AV → Option AV
  | [.str s, .str t] => some (goI (cmpS s t))
  | _ => none
def pParseInt : List AV → Option AV
  | [.str s, .int .i64 10, .int .i64 64] => if s.length ≤ mxIdx then some (.tup [goI (parseI s).1, bif (parseI s).2 then .err else .nili]) else none
  | _ => none
def pFormatInt : List AV → Option AV
  | [.int .i64 n, .int .i64 10] => if -9223372036854775808 ≤ n ∧ n ≤ 9223372036854775807 then some (.str (fmtI n)) else none
  | _ => none
/-- (*strings.Builder).copyCheck; oks: the types at whose variables' heads a Builder stands, and their sizes. -/
def pCopyCheck (oks : List (Nat × Nat)) (as : List AV) (H : Hp) : Option (AV × Hp) :=
  match as with
  | [.ptr b 0] => match H[b]? with
    | some (.cells 1 ty cs) => if (ty, cs.length) ∈ oks then match (cs[0]? : Option AV) with
      | some .nilp => some (.tup [], H.set b (.cells 1 ty (stc cs 0 [.ptr b 0])))
      | some (.ptr b' 0) => if b' = b then some (.tup [], H) else none
      | _ => none else none
    | _ => none
  | _ => none
/-- (*strings.Builder).String; tb: the bytes' type. -/
def pString (oks : List (Nat × Nat)) (tb : Nat) (as : List AV) (H : Hp) : Option (AV × Hp) :=
  match as with
  | [.ptr b 0] => match H[b]? with
    | some (.cells _ ty0 cs) => if (ty0, cs.length) ∈ oks then match (cs[1]? : Option AV) with
      | some .nils => some (.str [], H)
      | some (.sl 1 b2 0 n) => match H[b2]? with
        | some (.cells (_ + 1) ty cs2) => if ty = tb ∧ cs2.length = n ∧ 0 < n ∧ n ≤ mxLen then match optL byteOf (chunks 1 cs2 0 n) with
          | some s => some (.str s, H.set b2 (.cells 2 ty cs2))
          | none => none else none
        | _ => none
      | _ => none else none
    | _ => none
  | _ => none
def q (r : Option AV) (H : Hp) : Option (AV × Hp) := r.map fun v => (v, H)
end Go.EV

/- Told functions meet their contracts: what is of no program. -/
namespace Go.EV
open Go.RowKit
variable {P : Program} {Fb : Fz}

theorem WR.below {m : Mp} {F : Fz} {H : Hp} {w w' : World} (hw : WR P Fb m F H w) (hb : Below w.heap.size w w') : WR P Fb m F H w' ∧ Gs m F H w m F H w' := by
  refine ⟨⟨hw.bs, fun c o h => (hb.block c (hw.Flt h)).trans (hw.fz c o h), fun b p h => ?_, hw.inj, hw.fre⟩,
    ⟨MpLe.refl _, FzLe.refl _, fun b p h k => (by rw [h] at k; cases k), fun c o h k => (by rw [h] at k; cases k), fun _ _ _ h => h, fun c hc _ => hb.block c hc, hb.size, hb.os, hb.tape, hb.output, Nat.le_refl _, fun b p hn hp => (by rw [hp] at hn; cases hn), fun c r h => ⟨r, (hb.block c (Array.getElem?_eq_some_iff.1 h).1).trans h, SameL.refl r⟩⟩⟩
  obtain ⟨k, hk, hbr⟩ := hw.blk b p h
  exact ⟨k, hk, BR.mono (MpLe.refl _) (FzLe.refl _) (fun hm => hb.block p.c (hw.mutlt h ⟨k, hk, hm⟩)) hbr⟩

/-- A world that holds what is held from the start. -/
def Base (Fb : Fz) (w : World) : Prop := ∀ c o, Fb c = some o → w.heap[c]? = some o
theorem WR.base {m : Mp} {F : Fz} {H : Hp} {w : World} (hw : WR P Fb m F H w) : Base Fb w := fun c o h => hw.fz c o (hw.bs c o h)

def PrimAt (P : Program) (Fb : Fz) (k : Nat) (g : List AV → Hp → Option (AV × Hp)) : Prop :=
  ∀ vals H v H', g vals H = some (v, H') → ∀ m F w us, WR P Fb m F H w → VRL m F vals us → CallsIn Fence.wide 0 P k us w (RetOk P Fb m F H w v H')

theorem open_wide : Open Fence.wide := ⟨fun _ => trivial, rfl⟩

theorem ret_below {k : Nat} {m : Mp} {F : Fz} {H : Hp} {w : World} {us : Array Value} {v : AV} (hw : WR P Fb m F H w) (h : Calls P k us w fun e w' => ∃ u, e = .returned u ∧ VR m F v u ∧ Below w.heap.size w w') : CallsIn Fence.wide 0 P k us w (RetOk P Fb m F H w v H) := by
  refine callsIn_wide.2 (h.mono fun e w' ⟨u, h1, h2, h3⟩ => ?_)
  obtain ⟨q1, q2⟩ := hw.below h3
  exact ⟨u, h1, m, F, h2, q1, q2⟩

theorem vrl1 {m : Mp} {F : Fz} {a : AV} {us : Array Value} (h : VRL m F [a] us) : ∃ x, us = #[x] ∧ VR m F a x := by
  obtain ⟨h1, h2⟩ := h
  have : us.size = 1 := h1.symm
  obtain ⟨l⟩ := us
  match l, this with
  | [x], _ => exact ⟨x, rfl, h2 0 a x rfl rfl⟩
theorem vrl2 {m : Mp} {F : Fz} {a b : AV} {us : Array Value} (h : VRL m F [a, b] us) : ∃ x y, us = #[x, y] ∧ VR m F a x ∧ VR m F b y := by
  obtain ⟨h1, h2⟩ := h
  have : us.size = 2 := h1.symm
  obtain ⟨l⟩ := us
  match l, this with
  | [x, y], _ => exact ⟨x, y, rfl, h2 0 a x rfl rfl, h2 1 b y rfl rfl⟩
theorem vrl3 {m : Mp} {F : Fz} {a b c : AV} {us : Array Value} (h : VRL m F [a, b, c] us) : ∃ x y z, us = #[x, y, z] ∧ VR m F a x ∧ VR m F b y ∧ VR m F c z := by
  obtain ⟨h1, h2⟩ := h
  have : us.size = 3 := h1.symm
  obtain ⟨l⟩ := us
  match l, this with
  | [x, y, z], _ => exact ⟨x, y, z, rfl, h2 0 a x rfl rfl, h2 1 b y rfl rfl, h2 2 c z rfl rfl⟩

/-! ## The plain laws -/
def optZ : Option Nat → Int
  | some n => Int.ofNat n
  | none => -1
theorem optI_eq (o : Option Nat) : optI o = goI (optZ o) := by cases o <;> rfl
theorem optZ_succ (o : Option Nat) : optZ (o.map (· + 1)) = if optZ o == -1 then -1 else optZ o + 1 := by
  cases o with
  | none => rfl
  | some n =>
    have : (optZ (some n) == -1) = false := by simp [optZ]
    rw [this]; rfl
theorem idxByte_lib (c : Nat) (hc : c < 256) : ∀ l : List UInt8, optZ (idxByte c (l.map UInt8.toNat)) = Lib.indexByte l c.toUInt8
  | [] => rfl
  | b :: l => by
    have hb : (b.toNat = c) ↔ (b == c.toUInt8) = true := by
      rw [beq_iff_eq]
      constructor
      · rintro rfl; simp
      · rintro rfl; simp [Nat.toUInt8, Nat.mod_eq_of_lt hc]
    simp only [List.map_cons, idxByte, Lib.indexByte]
    by_cases h : b.toNat = c
    · rw [if_pos h, if_pos (hb.1 h)]; rfl
    · rw [if_neg h, if_neg (fun e => h (hb.2 e)), optZ_succ, idxByte_lib c hc l]
theorem isPre_lib : ∀ t l : List UInt8, isPre (t.map UInt8.toNat) (l.map UInt8.toNat) = t.isPrefixOf l
  | [], l => by simp [isPre]
  | a :: t, [] => rfl
  | a :: t, b :: l => by
    simp only [List.map_cons, isPre, List.isPrefixOf]
    rw [isPre_lib t l]
    congr 1
    by_cases h : a = b
    · subst h; simp
    · have : a.toNat ≠ b.toNat := fun e => h (UInt8.toNat_inj.1 e)
      simp [h, this]
theorem idxSub_lib (t : List UInt8) : ∀ l : List UInt8, optZ (idxSub (t.map UInt8.toNat) (l.map UInt8.toNat)) = Lib.index l t
  | [] => by
    simp only [List.map_nil, idxSub, Lib.index, List.isEmpty_map]
    split <;> rfl
  | b :: l => by
    have hp := isPre_lib t (b :: l)
    simp only [List.map_cons] at hp
    simp only [List.map_cons, idxSub, Lib.index, hp]
    split
    · rfl
    · rw [optZ_succ, idxSub_lib t l]
theorem isSome_optZ (o : Option Nat) : o.isSome = decide (0 ≤ optZ o) := by
  cases o with
  | none => rfl
  | some n => simp [optZ]
theorem cmpS_lib : ∀ a b : List UInt8, cmpS (a.map UInt8.toNat) (b.map UInt8.toNat) = Lib.compareBytes a b
  | [], [] => rfl
  | [], b :: y => rfl
  | a :: x, [] => rfl
  | a :: x, b :: y => by
    have ih := cmpS_lib x y
    simp only [List.map_cons, Lib.compareBytes]
    unfold cmpS at ih ⊢
    simp only [bytesLt]
    have h1 : (a < b) ↔ a.toNat < b.toNat := UInt8.lt_iff_toNat_lt
    have h2 : (b < a) ↔ b.toNat < a.toNat := UInt8.lt_iff_toNat_lt
    by_cases c1 : a.toNat < b.toNat
    · rw [if_pos (h1.2 c1)]; simp [c1]
    · rw [if_neg (fun e => c1 (h1.1 e))]
      by_cases c2 : b.toNat < a.toNat
      · rw [if_pos (h2.2 c2)]
        have : a.toNat ≠ b.toNat := by omega
        simp [c1, this]
      · rw [if_neg (fun e => c2 (h2.1 e))]
        have : a.toNat = b.toNat := by omega
        rw [← ih]
        simp [this]
theorem toU8_map (l : List UInt8) : toU8 (l.map UInt8.toNat) = l := by
  unfold toU8
  rw [List.map_map]
  have : (UInt8.ofNat ∘ UInt8.toNat) = id := by funext x; simp
  rw [this, List.map_id]
theorem digs_lib : ∀ (f n : Nat) (acc : List Nat), n < 10 ^ f → 0 < f → digs f n acc = (Lib.decDigits n).map UInt8.toNat ++ acc
  | 0, n, acc, _, h => by omega
  | f + 1, n, acc, h, _ => by
    rw [digs, Lib.decDigits]
    by_cases hn : n < 10
    · rw [if_pos hn, dif_pos hn]
      simp [UInt8.toNat_ofNat]
      omega
    · rw [if_neg hn, dif_neg hn]
      have hf : 0 < f := by
        rcases f with _ | f
        · simp at h; omega
        · omega
      rw [digs_lib f (n / 10) _ (by rw [Nat.pow_succ] at h; omega) hf]
      have : (48 + n % 10) % 256 = 48 + n % 10 := by omega
      simp [UInt8.toNat_ofNat, this]
theorem fmtI_lib (n : Int) (h0 : -9223372036854775808 ≤ n) (h1 : n ≤ 9223372036854775807) : fmtI n = (Lib.itoa n).map UInt8.toNat := by
  unfold fmtI Lib.itoa
  cases n with
  | ofNat n =>
    have : ¬ Int.ofNat n < 0 := by simp
    rw [if_neg this]
    simp only
    rw [digs_lib 20 n [] (by have : (n : Int) ≤ 9223372036854775807 := h1; omega) (by decide)]
    simp
  | negSucc n =>
    rw [if_pos (Int.negSucc_lt_zero n)]
    simp only
    rw [digs_lib 20 (n + 1) [] (by omega) (by decide)]
    simp

/-! ## The told functions -/
theorem vr_str {m : Mp} {F : Fz} {s : List Nat} {u : Value} (h : VR m F (.str s) u) : ∃ b : ByteArray, u = .string b ∧ b.data.toList.map UInt8.toNat = s := by cases h with | str _ b h => exact ⟨b, rfl, h⟩
theorem vr_int {m : Mp} {F : Fz} {k : IntKind} {n : Int} {u : Value} (h : VR m F (.int k n) u) : u = .int k n := by cases h; rfl
theorem size_of {s : List Nat} {b : ByteArray} (h : b.data.toList.map UInt8.toNat = s) : b.size = s.length := by rw [← h, List.length_map, Array.length_toList]; rfl

theorem q_some {r : Option AV} {H : Hp} {v : AV} {H' : Hp} (h : q r H = some (v, H')) : r = some v ∧ H' = H := by
  cases r with
  | none => cases h
  | some x => simp only [q, Option.map_some, Option.some.injEq, Prod.mk.injEq] at h; exact ⟨by rw [h.1], h.2.symm⟩

theorem prim_IndexByte {k : Nat} (hk : ∀ (s : ByteArray) (c : Int) (w : World), Base Fb w → Calls P k #[.string s, .int .u8 c] w fun e w' => e = .returned (.int .i64 (Lib.indexByte s.data.toList c.toNat.toUInt8)) ∧ w' = w) : PrimAt P Fb k fun as H => q (pIndexByte as) H := by
  intro vals H v H' h m F w us hw hv
  obtain ⟨h1, h2⟩ := q_some h
  subst h2; clear h; have h := h1; clear h1
  unfold pIndexByte at h
  split at h
  · rename_i s c
    split at h
    · rename_i hc
      cases h
      obtain ⟨x, y, rfl, hx, hy⟩ := vrl2 hv
      obtain ⟨b, rfl, hb⟩ := vr_str hx
      obtain rfl := vr_int hy
      refine ret_below hw ((hk b _ w hw.base).mono fun e w' ⟨h1, h2⟩ => ?_)
      subst h2
      refine ⟨_, h1, ?_, Below.refl _ _⟩
      rw [optI_eq, ← hb, idxByte_lib c hc]
      exact .int _ _
    · cases h
  · cases h
theorem prim_Index {k : Nat} (hk : ∀ (s t : ByteArray) (w : World), Base Fb w → s.size < 4294967281 → Calls P k #[.string s, .string t] w fun e w' => e = .returned (.int .i64 (Lib.index s.data.toList t.data.toList)) ∧ w' = w) : PrimAt P Fb k fun as H => q (pIndex as) H := by
  intro vals H v H' h m F w us hw hv
  obtain ⟨h1, h2⟩ := q_some h
  subst h2; clear h; have h := h1; clear h1
  unfold pIndex at h
  split at h
  · rename_i s t
    split at h
    · rename_i hc
      cases h
      obtain ⟨x, y, rfl, hx, hy⟩ := vrl2 hv
      obtain ⟨b, rfl, hb⟩ := vr_str hx
      obtain ⟨d, rfl, hd⟩ := vr_str hy
      refine ret_below hw ((hk b d w hw.base (by rw [size_of hb]; unfold mxIdx at hc; omega)).mono fun e w' ⟨h1, h2⟩ => ?_)
      subst h2
      refine ⟨_, h1, ?_, Below.refl _ _⟩
      rw [optI_eq, ← hb, ← hd, idxSub_lib]
      exact .int _ _
    · cases h
  · cases h
theorem prim_Contains {k : Nat} (hk : ∀ (s t : ByteArray) (w : World), Base Fb w → s.size < 4294967281 → Calls P k #[.string s, .string t] w fun e w' => e = .returned (.bool (Lib.contains s.data.toList t.data.toList)) ∧ w' = w) : PrimAt P Fb k fun as H => q (pContains as) H := by
  intro vals H v H' h m F w us hw hv
  obtain ⟨h1, h2⟩ := q_some h
  subst h2; clear h; have h := h1; clear h1
  unfold pContains at h
  split at h
  · rename_i s t
    split at h
    · rename_i hc
      cases h
      obtain ⟨x, y, rfl, hx, hy⟩ := vrl2 hv
      obtain ⟨b, rfl, hb⟩ := vr_str hx
      obtain ⟨d, rfl, hd⟩ := vr_str hy
      refine ret_below hw ((hk b d w hw.base (by rw [size_of hb]; unfold mxIdx at hc; omega)).mono fun e w' ⟨h1, h2⟩ => ?_)
      subst h2
      refine ⟨_, h1, ?_, Below.refl _ _⟩
      rw [isSome_optZ, ← hb, ← hd, idxSub_lib]
      exact .bool _
    · cases h
  · cases h
theorem prim_Compare {k : Nat} (hk : ∀ (s t : ByteArray) (w : World), Base Fb w → Calls P k #[.string s, .string t] w fun e w' => e = .returned (.int .i64 (Lib.compareBytes s.data.toList t.data.toList)) ∧ w' = w) : PrimAt P Fb k fun as H => q (pCompare as) H := by
  intro vals H v H' h m F w us hw hv
  obtain ⟨h1, h2⟩ := q_some h
  subst h2; clear h; have h := h1; clear h1
  unfold pCompare at h
  split at h
  · rename_i s t
    cases h
    obtain ⟨x, y, rfl, hx, hy⟩ := vrl2 hv
    obtain ⟨b, rfl, hb⟩ := vr_str hx
    obtain ⟨d, rfl, hd⟩ := vr_str hy
    refine ret_below hw ((hk b d w hw.base).mono fun e w' ⟨h1, h2⟩ => ?_)
    subst h2
    refine ⟨_, h1, ?_, Below.refl _ _⟩
    rw [← hb, ← hd, cmpS_lib]
    exact .int _ _
  · cases h
theorem prim_FormatInt {k : Nat} (hk : ∀ (n : Int) (w : World), Base Fb w → -9223372036854775808 ≤ n → n ≤ 9223372036854775807 → Calls P k #[.int .i64 n, .int .i64 10] w fun e w' => e = .returned (.string ⟨(Lib.itoa n).toArray⟩) ∧ Below w.heap.size w w') : PrimAt P Fb k fun as H => q (pFormatInt as) H := by
  intro vals H v H' h m F w us hw hv
  obtain ⟨h1, h2⟩ := q_some h
  subst h2; clear h; have h := h1; clear h1
  unfold pFormatInt at h
  split at h
  · rename_i n
    split at h
    · rename_i hc
      cases h
      obtain ⟨x, y, rfl, hx, hy⟩ := vrl2 hv
      obtain rfl := vr_int hx
      obtain rfl := vr_int hy
      refine ret_below hw ((hk n w hw.base hc.1 hc.2).mono fun e w' ⟨h1, h2⟩ => ?_)
      refine ⟨_, h1, ?_, h2⟩
      exact .str _ _ (by rw [fmtI_lib n hc.1 hc.2])
    · cases h
  · cases h
theorem prim_ParseInt {k : Nat} (hok : ∀ (s : ByteArray) (v : Int) (w : World), Base Fb w → s.size ≤ 4294967280 → Lib.parseIntB 64 s.data.toList = .ok v → Calls P k #[.string s, .int .i64 10, .int .i64 64] w fun e w' => e = .returned (.tuple #[.int .i64 v, .nilIface]) ∧ Below w.heap.size w w')
    (hsy : ∀ (s : ByteArray) (w : World), Base Fb w → s.size ≤ 4294967280 → (∀ v, Lib.parseIntB 64 s.data.toList ≠ .ok v) → Lib.parseIntB 64 s.data.toList ≠ .range → Calls P k #[.string s, .int .i64 10, .int .i64 64] w fun e w' => ∃ t x, e = .returned (.tuple #[.int .i64 0, .iface t x]) ∧ Below w.heap.size w w')
    (hra : ∀ (s : ByteArray) (w : World), Base Fb w → s.size ≤ 4294967280 → Lib.parseIntB 64 s.data.toList = .range → Calls P k #[.string s, .int .i64 10, .int .i64 64] w fun e w' => ∃ t x, e = .returned (.tuple #[.int .i64 (Lib.intSat 64 s.data.toList), .iface t x]) ∧ Below w.heap.size w w') : PrimAt P Fb k fun as H => q (pParseInt as) H := by
  intro vals H v H' h m F w us hw hv
  obtain ⟨h1, h2⟩ := q_some h
  subst h2; clear h; have h := h1; clear h1
  unfold pParseInt at h
  split at h
  · rename_i s
    split at h
    · rename_i hc
      cases h
      obtain ⟨x, y, z, rfl, hx, hy, hz⟩ := vrl3 hv
      obtain ⟨b, rfl, hb⟩ := vr_str hx
      obtain rfl := vr_int hy
      obtain rfl := vr_int hz
      have hsz : b.size ≤ 4294967280 := by rw [size_of hb]; unfold mxIdx at hc; omega
      have tup2 : ∀ {a c : AV} {u1 u2 : Value}, VR m F a u1 → VR m F c u2 → VR m F (.tup [a, c]) (.tuple #[u1, u2]) := fun h1 h2 => .tup _ _ rfl (fun i p q e1 e2 => by
        match i with
        | 0 => simp at e1 e2; subst e1; subst e2; exact h1
        | 1 => simp at e1 e2; subst e1; subst e2; exact h2
        | i + 2 => simp at e1)
      unfold parseI
      rw [← hb, toU8_map]
      rcases hp : Lib.parseIntB 64 b.data.toList with n | _ | _
      · exact ret_below hw ((hok b n w hw.base hsz hp).mono fun e w' ⟨h1, h2⟩ => ⟨_, h1, tup2 (.int _ _) .nili, h2⟩)
      · exact ret_below hw ((hsy b w hw.base hsz (fun v e => by rw [hp] at e; cases e) (fun e => by rw [hp] at e; cases e)).mono fun e w' ⟨t, x, h1, h2⟩ => ⟨_, h1, tup2 (.int _ _) (.err t x), h2⟩)
      · exact ret_below hw ((hra b w hw.base hsz hp).mono fun e w' ⟨t, x, h1, h2⟩ => ⟨_, h1, tup2 (.int _ _) (.err t x), h2⟩)
    · cases h
  · cases h
end Go.EV

/- Closed calls, told. -/
namespace Go.EV
open Go.RowKit
variable {P : Program} {Fb : Fz}

def toldGet : List (Nat × List AV × AV) → Nat → List AV → Option AV
  | [], _, _ => none
  | (k, as, v) :: r, i, bs => bif Nat.beq i k && AV.beqL as bs then some v else toldGet r i bs
def Env.told (E : Env) (l : List (Nat × List AV × AV)) : Env :=
  { fs := E.fs, pr := fun k as H => match toldGet l k as with | some v => some (v, H) | none => E.pr k as H, quiet := E.quiet }

theorem toldGet_mem : ∀ {l : List (Nat × List AV × AV)} {k : Nat} {as : List AV} {v : AV}, toldGet l k as = some v → (k, as, v) ∈ l
  | [], _, _, _, h => by cases h
  | (k', as', v') :: r, k, as, v, h => by
    unfold toldGet at h
    cases e : (Nat.beq k k' && AV.beqL as' as) with
    | true =>
      rw [e] at h
      simp only [Bool.and_eq_true] at e
      cases h
      rw [Nat.eq_of_beq_eq_true e.1, AV.beqL_eq as' as e.2]
      exact List.mem_cons_self ..
    | false => rw [e] at h; exact List.mem_cons_of_mem _ (toldGet_mem h)

theorem vrl_hf {m m2 : Mp} {F F' : Fz} (hF : FzLe F F') {as : List AV} {us : Array Value} (h : VRL m F as us) (hq : hfL as = true) : VRL m2 F' as us :=
  ⟨h.1, fun i a b e1 e2 => (h.2 i a b e1 e2).hf_any hF (hfL_mem hq a (List.mem_of_getElem? e1))⟩

/-- What a closed call answers it answers in every heap. -/
theorem told_prim {E : Env} (hE : EnvOk P E) (hp : PrimOk Fence.wide P Fb E) (hmix : P.follows .mixedOrders = true) {n k : Nat} {as : List AV} {v : AV} {H1 : Hp} (h : ev E n (.call (.fn k []) as []) = .val v H1) (hq : hfL as = true) (hv : hf v = true)
    {m : Mp} {F : Fz} {H : Hp} {w : World} {us : Array Value} (hw : WR P Fb m F H w) (ha : VRL m F as us) : CallsIn Fence.wide 0 P k us w (RetOk P Fb m F H w v H) := by
  refine (ev_calls open_wide hE hp hmix h hw.none (vrl_hf (FzLe.refl _) ha hq)).mono ?_
  rintro e w' ⟨u, rfl, m', F', q1, q2, q3⟩
  obtain ⟨b1, b2⟩ := back1 hw q2 q3
  exact ⟨u, rfl, m, _, q1.hf_any (frF_le m' H1 w' F' _) hv, b1, b2⟩

/-- A call that is entered has a body. -/
theorem entered {E : Env} (hE : EnvOk P E) (hp : PrimOk Fence.wide P Fb E) {n k : Nat} {as : List AV} {v : AV} {H H1 : Hp} (h : ev E n (.call (.fn k []) as H) = .val v H1) : ∃ fn c, P.funcs[k]? = some fn ∧ (fn.name == "runtime.NumGoroutine") = false ∧ fn.body = some c := by
  cases n with
  | zero => rw [ev_zero] at h; cases h
  | succ n =>
    rw [ev_succ] at h
    simp only [evStep] at h
    split at h
    · rename_i r H2 hpr
      exact (hp _ _ _ _ _ hpr).1
    · split at h
      · cases h
      · rename_i Fc hF
        obtain ⟨fn, q1, q2, q3⟩ := hE.fs k Fc hF
        obtain ⟨c, q4⟩ := compF_body q3
        exact ⟨fn, c, q1, q2, q4⟩

def ToldOk (P : Program) (Fb : Fz) (l : List (Nat × List AV × AV)) : Prop :=
  ∀ x ∈ l, (∃ fn c, P.funcs[x.1]? = some fn ∧ (fn.name == "runtime.NumGoroutine") = false ∧ fn.body = some c) ∧ ∀ m F H w us, WR P Fb m F H w → VRL m F x.2.1 us → CallsIn Fence.wide 0 P x.1 us w (RetOk P Fb m F H w x.2.2 H)
theorem ToldOk.nil : ToldOk P Fb [] := fun x h => by cases h
theorem ToldOk.cons {E : Env} (hE : EnvOk P E) (hp : PrimOk Fence.wide P Fb E) (hmix : P.follows .mixedOrders = true) {n k : Nat} {as : List AV} {v : AV} {H1 : Hp} (h : ev E n (.call (.fn k []) as []) = .val v H1) (hq : hfL as = true) (hv : hf v = true) {l : List (Nat × List AV × AV)} (hl : ToldOk P Fb l) : ToldOk P Fb ((k, as, v) :: l) := by
  intro x hx
  rcases List.mem_cons.1 hx with rfl | hx
  · exact ⟨entered hE hp h, fun m F H w us hw ha => told_prim hE hp hmix h hq hv hw ha⟩
  · exact hl x hx
theorem told_env {E : Env} (hE : EnvOk P E) (l : List (Nat × List AV × AV)) : EnvOk P (E.told l) :=
  ⟨hE.fs, fun k hk => ⟨(hE.quiet k hk).1, fun vals H v H' h => by
    simp only [Env.told] at h
    split at h
    · simp only [Option.some.injEq, Prod.mk.injEq] at h; exact h.2.symm
    · exact (hE.quiet k hk).2 _ _ _ _ h⟩⟩
theorem told_ok {E : Env} (hp : PrimOk Fence.wide P Fb E) {l : List (Nat × List AV × AV)} (hl : ToldOk P Fb l) : PrimOk Fence.wide P Fb (E.told l) := by
  intro k vals H v H' h
  simp only [Env.told] at h
  split at h
  · rename_i v' hg
    simp only [Option.some.injEq, Prod.mk.injEq] at h
    obtain ⟨rfl, rfl⟩ := h
    obtain ⟨h1, h2⟩ := hl _ (toldGet_mem hg)
    exact ⟨h1, fun m F w us hw hv => h2 m F H w us hw hv⟩
  · exact hp _ _ _ _ _ h
end Go.EV
