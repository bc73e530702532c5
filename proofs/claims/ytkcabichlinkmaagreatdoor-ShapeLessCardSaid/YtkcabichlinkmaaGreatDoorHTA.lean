/- Pull trees, as data. -/
import Derived.Test.YtkcabichlinkmaaGreatDoorHMM
import Derived.Test.YtkcabichlinkmaaGreatDoorHCd4
import Derived.Test.YtkcabichlinkmaaGreatDoorHPB
namespace Go.EV
mutual
inductive Lf where
  | mk (k n : Int) (s : List Nat) (i : Bool) (t : List Br)
inductive Br where
  | mk (a : List Nat) (b : Bool) (l : List Lf)
end
mutual
def Lf.av : Lf → List AV
  | .mk k n s i t => [.int .i64 k, .int .i64 n, .str s, .bool i, .lst (Br.avs t)]
def Br.av : Br → List AV
  | .mk a b l => [.str a, .bool b, .lst (Lf.avs l)]
def Lf.avs : List Lf → List (List AV)
  | [] => []
  | x :: r => x.av :: Lf.avs r
def Br.avs : List Br → List (List AV)
  | [] => []
  | x :: r => x.av :: Br.avs r
end
theorem Lf.avs_map : ∀ l, Lf.avs l = l.map Lf.av
  | [] => rfl
  | x :: r => by rw [Lf.avs, Lf.avs_map r]; rfl
theorem Br.avs_map : ∀ l, Br.avs l = l.map Br.av
  | [] => rfl
  | x :: r => by rw [Br.avs, Br.avs_map r]; rfl
theorem Lf.at {l : List Lf} {i : Nat} {k n : Int} {s : List Nat} {j : Bool} {t : List Br} (h : l[i]? = some (.mk k n s j t)) : (Lf.avs l)[i]? = some [.int .i64 k, .int .i64 n, .str s, .bool j, .lst (Br.avs t)] := by rw [Lf.avs_map, List.getElem?_map, h]; rfl
theorem Br.at {l : List Br} {i : Nat} {a : List Nat} {b : Bool} {ls : List Lf} (h : l[i]? = some (.mk a b ls)) : (Br.avs l)[i]? = some [.str a, .bool b, .lst (Lf.avs ls)] := by rw [Br.avs_map, List.getElem?_map, h]; rfl
theorem Lf.len (l : List Lf) : (Lf.avs l).length = l.length := by rw [Lf.avs_map, List.length_map]
theorem Br.len (l : List Br) : (Br.avs l).length = l.length := by rw [Br.avs_map, List.length_map]
end Go.EV
namespace Go.EV
def mx63 : Nat := 9223372036854775807
mutual
/-- No slice is longer than a slice may be. -/
def Lf.sm : Lf → Prop
  | .mk _ _ s _ t => t.length ≤ mx63 ∧ Br.sms t ∧ s.length ≤ mx63
def Br.sm : Br → Prop
  | .mk a _ l => l.length ≤ mx63 ∧ Lf.sms l ∧ a.length ≤ mx63
def Lf.sms : List Lf → Prop
  | [] => True
  | x :: r => x.sm ∧ Lf.sms r
def Br.sms : List Br → Prop
  | [] => True
  | x :: r => x.sm ∧ Br.sms r
end
theorem Lf.sms_at : ∀ {l : List Lf} {i : Nat} {x : Lf}, Lf.sms l → l[i]? = some x → x.sm
  | [], i, x, _, h => by simp at h
  | y :: r, 0, x, h, e => by simp at e; subst e; exact h.1
  | y :: r, i + 1, x, h, e => Lf.sms_at h.2 (by simpa using e)
theorem Br.sms_at : ∀ {l : List Br} {i : Nat} {x : Br}, Br.sms l → l[i]? = some x → x.sm
  | [], i, x, _, h => by simp at h
  | y :: r, 0, x, h, e => by simp at e; subst e; exact h.1
  | y :: r, i + 1, x, h, e => Br.sms_at h.2 (by simpa using e)
theorem sub_lt {ts : List Br} {i : Nat} {a : List Nat} {b : Bool} {ls : List Lf} {k : Nat} {kd n : Int} {s : List Nat} {j : Bool} {t : List Br} (h : ts[i]? = some (.mk a b ls)) (h2 : ls[k]? = some (.mk kd n s j t)) : SizeOf.sizeOf t < SizeOf.sizeOf ts := by
  have h1 := List.sizeOf_lt_of_mem (List.mem_of_getElem? h)
  have h3 := List.sizeOf_lt_of_mem (List.mem_of_getElem? h2)
  simp only [Br.mk.sizeOf_spec, Lf.mk.sizeOf_spec] at h1 h3
  omega
theorem bytesAV_at {s : List Nat} {i b : Nat} (h : s[i]? = some b) : (bytesAV s)[i]? = some [.int .u8 (Int.ofNat b)] := by unfold bytesAV; rw [List.getElem?_map, h]; rfl
theorem bytesAV_len (s : List Nat) : (bytesAV s).length = s.length := by unfold bytesAV; rw [List.length_map]
end Go.EV

/- Words and values: both say the same of them. -/
namespace Go.EV
set_option maxRecDepth 100000
def lowZ (z : Int) : Bool := decide (97 ≤ z) && decide (z ≤ 122)
def digZ (z : Int) : Bool := decide (48 ≤ z) && decide (z ≤ 57)
def chZ (z : Int) : Bool := lowZ z || (digZ z || (decide (z = 46) || (decide (z = 95) || (decide (z = 45) || decide (z = 47)))))
def wordB : List Nat → Bool
  | [] => false
  | c :: s => decide (s.length < 64) && lowZ (Int.ofNat c) && s.all fun c => chZ (Int.ofNat c)
theorem chZ_low {z : Int} (h : lowZ z = true) : chZ z = true := by simp [chZ, h]
theorem wordB_of {c : Nat} {s : List Nat} (hl : s.length < 64) (h0 : lowZ (Int.ofNat c) = true) (h : ∀ j, j < (c :: s).length → ∀ x, (c :: s)[j]? = some x → chZ (Int.ofNat x) = true) : wordB (c :: s) = true := by
  simp only [wordB, Bool.and_eq_true, decide_eq_true_eq, List.all_eq_true]
  refine ⟨⟨hl, h0⟩, fun x hx => ?_⟩
  obtain ⟨j, hj, e⟩ := List.getElem_of_mem hx
  refine h (j + 1) (by simpa using hj) x ?_
  rw [List.getElem?_cons_succ, List.getElem?_eq_getElem hj, e]
theorem wordB_bad {s : List Nat} {k c : Nat} (hk : s[k]? = some c) (h : chZ (Int.ofNat c) = false) : wordB s = false := by
  cases s with
  | nil => rfl
  | cons d s =>
    cases hw : wordB (d :: s) with
    | false => rfl
    | true =>
      simp only [wordB, Bool.and_eq_true, List.all_eq_true] at hw
      cases k with
      | zero => simp only [List.getElem?_cons_zero, Option.some.injEq] at hk; subst hk; rw [chZ_low hw.1.2] at h; cases h
      | succ k => rw [hw.2 c (List.mem_of_getElem? (by simpa using hk))] at h; cases h
theorem l159 {E : Env} (h : Has E 159 F159.pure) (z : Int) : FnC E 159 [.int .u8 z] (.bool (lowZ z)) := by
  refine FnC.of h rfl (by kernel_rfl) (by kernel_rfl) ?_
  refine Pk.adv 9 (by kernel_rfl) ?_
  refine Pk.split p5 (decide (97 ≤ z)) (by kernel_rfl) (fun h1 => ?_) (fun h1 => ?_)
  · refine Pk.adv 6 (by kernel_rfl) ?_
    refine Pk.fin (v' := AV.bool (decide (z ≤ 122))) (by kernel_rfl) (by kernel_rfl) (by kernel_rfl) ?_
    simp_all [lowZ] <;> omega
  · refine Pk.adv 6 (by kernel_rfl) ?_
    refine Pk.fin (v' := AV.bool false) (by kernel_rfl) (by kernel_rfl) (by kernel_rfl) ?_
    simp_all [lowZ] <;> omega
theorem l160 {E : Env} (h : Has E 160 F160.pure) (z : Int) : FnC E 160 [.int .u8 z] (.bool (digZ z)) := by
  refine FnC.of h rfl (by kernel_rfl) (by kernel_rfl) ?_
  refine Pk.adv 9 (by kernel_rfl) ?_
  refine Pk.split p5 (decide (48 ≤ z)) (by kernel_rfl) (fun h1 => ?_) (fun h1 => ?_)
  · refine Pk.adv 6 (by kernel_rfl) ?_
    refine Pk.fin (v' := AV.bool (decide (z ≤ 57))) (by kernel_rfl) (by kernel_rfl) (by kernel_rfl) ?_
    simp_all [digZ] <;> omega
  · refine Pk.adv 6 (by kernel_rfl) ?_
    refine Pk.fin (v' := AV.bool false) (by kernel_rfl) (by kernel_rfl) (by kernel_rfl) ?_
    simp_all [digZ] <;> omega
set_option maxHeartbeats 4000000 in
/-- The document's. -/
theorem l121 {E : Env} (h : Has E 121 F121.pure) (h159 : Has E 159 F159.pure) (h160 : Has E 160 F160.pure) (s : List Nat) : FnC E 121 [.str s] (.bool (wordB s)) := by
  refine FnC.of h rfl (by kernel_rfl) (by kernel_rfl) ?_
  have hl := l159 h159
  have hd := l160 h160
  rcases s with _ | ⟨c, s⟩
  · refine Pk.adv 29 (by kernel_rfl) ?_
    refine Pk.fin (v' := AV.bool false) (by kernel_rfl) (by kernel_rfl) (by kernel_rfl) ?_
    rfl
  by_cases hlen : s.length < 64
  · have e1 : decide (Int.ofNat (c :: s).length < 1) = false := by simp; omega
    have e2 : decide (64 < Int.ofNat (c :: s).length) = false := by simp; omega
    have e0 : (c :: s)[0]? = some c := rfl
    cases hc : lowZ (Int.ofNat c) with
    | false =>
      have e3 : (!lowZ (Int.ofNat c)) = true := by rw [hc]; rfl
      refine Pk.adv 16 (by kernel_rfl) ?_
      refine Pk.know p13 (decide (64 < (↑(List.length (c :: s)) : Int))) false (by kernel_rfl) e2 ?_
      refine Pk.adv 2 (by kernel_rfl) ?_
      refine Pk.call0 (g := CX.c (AV.fn 159 [])) (args := [X15]) (k := 159) (caps := []) (as := [AV.int IntKind.u8 (↑c : Int)]) (vs := [AV.int IntKind.u8 (↑c : Int)]) (v := AV.bool (lowZ (↑c : Int))) (by kernel_rfl) (by kernel_rfl) (by kernel_rfl) (by kernel_rfl) (by kernel_rfl) (by kernel_rfl) (by kernel_rfl) (hl ((↑c : Int))) ?_
      refine Pk.adv 3 (by kernel_rfl) ?_
      refine Pk.know p18 (!lowZ (↑c : Int)) true (by kernel_rfl) e3 ?_
      refine Pk.adv 7 (by kernel_rfl) ?_
      refine Pk.fin (v' := AV.bool false) (by kernel_rfl) (by kernel_rfl) (by kernel_rfl) ?_
      simp only [wordB, hc, Bool.and_false, Bool.false_and]
    | true =>
      have e3 : (!lowZ (Int.ofNat c)) = false := by rw [hc]; rfl
      refine Pk.adv 16 (by kernel_rfl) ?_
      refine Pk.know p13 (decide (64 < (↑(List.length (c :: s)) : Int))) false (by kernel_rfl) e2 ?_
      refine Pk.adv 2 (by kernel_rfl) ?_
      refine Pk.call0 (g := CX.c (AV.fn 159 [])) (args := [X15]) (k := 159) (caps := []) (as := [AV.int IntKind.u8 (↑c : Int)]) (vs := [AV.int IntKind.u8 (↑c : Int)]) (v := AV.bool (lowZ (↑c : Int))) (by kernel_rfl) (by kernel_rfl) (by kernel_rfl) (by kernel_rfl) (by kernel_rfl) (by kernel_rfl) (by kernel_rfl) (hl ((↑c : Int))) ?_
      refine Pk.adv 3 (by kernel_rfl) ?_
      refine Pk.know p18 (!lowZ (↑c : Int)) false (by kernel_rfl) e3 ?_
      refine Pk.adv 8 (by kernel_rfl) ?_
      -- LOOP
      refine Pk.kn F121 [.code c121_9, .blk 0, .code (.seq c121_10 .ret)] [] [(p0, .str (c :: s)), (p3, .int .i64 (Int.ofNat 0))] (by kernel_rfl) (by kernel_rfl) (by kernel_rfl) (by kernel_rfl) (by kernel_rfl) (by kernel_rfl) ?_
      refine Pk.upG (fun k => ⟨[.code c121_9, .blk 0, .code (.seq c121_10 .ret)], .norm, fr F121 [(p0, .str (c :: s)), (p3, .int .i64 (Int.ofNat k))], []⟩) (fun k => ∀ x, (c :: s)[k]? = some x → chZ (Int.ofNat x) = true) (c :: s).length ?_ ?_
      · intro k hk ih
        clear e1 e2 e3 e0
        have hlt : decide (Int.ofNat k < Int.ofNat (c :: s).length) = true := by simp at hk ⊢; omega
        obtain ⟨x, hx⟩ : ∃ x, (c :: s)[k]? = some x := ⟨_, List.getElem?_eq_getElem hk⟩
        refine Pk.adv 9 (by kernel_rfl) ?_
        refine Pk.know p22 (decide (Int.ofNat k < (↑(List.length (c :: s)) : Int))) true (by kernel_rfl) hlt ?_
        refine Pk.adv 8 (by kernel_rfl) ?_
        refine Pk.index (x := X25) (i := X26) (l := c :: s) (q := IntKind.i64) (n := k) (c := x) (by kernel_rfl) (by kernel_rfl) (by kernel_rfl) (by kernel_rfl) hx ?_
        refine Pk.adv 5 (by kernel_rfl) ?_
        refine Pk.call0 (g := CX.c (AV.fn 159 [])) (args := [X28]) (k := 159) (caps := []) (as := [AV.int IntKind.u8 (Int.ofNat x)]) (vs := [AV.int IntKind.u8 (Int.ofNat x)]) (v := AV.bool (lowZ (Int.ofNat x))) (by kernel_rfl) (by kernel_rfl) (by kernel_rfl) (by kernel_rfl) (by kernel_rfl) (by kernel_rfl) (by kernel_rfl) (hl (Int.ofNat x)) ?_
        refine Pk.adv 2 (by kernel_rfl) ?_
        refine Pk.split p31 (!lowZ (Int.ofNat x)) (by kernel_rfl) (fun h1 => ?_) (fun h1 => ?_)
        · refine Pk.adv 1 (by kernel_rfl) ?_
          refine Pk.call0 (g := CX.c (AV.fn 160 [])) (args := [X32]) (k := 160) (caps := []) (as := [AV.int IntKind.u8 (Int.ofNat x)]) (vs := [AV.int IntKind.u8 (Int.ofNat x)]) (v := AV.bool (digZ (Int.ofNat x))) (by kernel_rfl) (by kernel_rfl) (by kernel_rfl) (by kernel_rfl) (by kernel_rfl) (by kernel_rfl) (by kernel_rfl) (hd (Int.ofNat x)) ?_
          refine Pk.adv 3 (by kernel_rfl) ?_
          refine Pk.split p36 (!digZ (Int.ofNat x)) (by kernel_rfl) (fun h2 => ?_) (fun h2 => ?_)
          · refine Pk.adv 4 (by kernel_rfl) ?_
            refine Pk.split p40 (!decide (Int.ofNat x = 46)) (by kernel_rfl) (fun h3 => ?_) (fun h3 => ?_)
            · refine Pk.adv 4 (by kernel_rfl) ?_
              refine Pk.split p44 (!decide (Int.ofNat x = 95)) (by kernel_rfl) (fun h4 => ?_) (fun h4 => ?_)
              · refine Pk.adv 4 (by kernel_rfl) ?_
                refine Pk.split p48 (!decide (Int.ofNat x = 45)) (by kernel_rfl) (fun h5 => ?_) (fun h5 => ?_)
                · refine Pk.adv 4 (by kernel_rfl) ?_
                  refine Pk.split p51 (!decide (Int.ofNat x = 47)) (by kernel_rfl) (fun h6 => ?_) (fun h6 => ?_)
                  · refine Pk.adv 11 (by kernel_rfl) ?_
                    refine Pk.fin (v' := AV.bool false) (by kernel_rfl) (by kernel_rfl) (by kernel_rfl) ?_
                    exact (wordB_bad hx (by simp_all [chZ])).symm ▸ rfl
                  · refine Pk.adv 8 (by kernel_rfl) ?_
                    -- LOOP
                    refine Pk.inc p3 k (by kernel_rfl) (by simp at hk; omega) ?_
                    refine Pk.kn F121 [.code c121_9, .blk 0, .code (.seq c121_10 .ret)] [] [(p0, .str (c :: s)), (p3, .int .i64 (Int.ofNat (k + 1)))] (by kernel_rfl) (by kernel_rfl) (by kernel_rfl) (by kernel_rfl) (by kernel_rfl) (by kernel_rfl) ?_
                    exact ih fun y hy => by rw [hx, Option.some.injEq] at hy; subst hy; simp_all [chZ]
                · refine Pk.adv 12 (by kernel_rfl) ?_
                  -- LOOP
                  refine Pk.inc p3 k (by kernel_rfl) (by simp at hk; omega) ?_
                  refine Pk.kn F121 [.code c121_9, .blk 0, .code (.seq c121_10 .ret)] [] [(p0, .str (c :: s)), (p3, .int .i64 (Int.ofNat (k + 1)))] (by kernel_rfl) (by kernel_rfl) (by kernel_rfl) (by kernel_rfl) (by kernel_rfl) (by kernel_rfl) ?_
                  exact ih fun y hy => by rw [hx, Option.some.injEq] at hy; subst hy; simp_all [chZ]
              · refine Pk.adv 16 (by kernel_rfl) ?_
                -- LOOP
                refine Pk.inc p3 k (by kernel_rfl) (by simp at hk; omega) ?_
                refine Pk.kn F121 [.code c121_9, .blk 0, .code (.seq c121_10 .ret)] [] [(p0, .str (c :: s)), (p3, .int .i64 (Int.ofNat (k + 1)))] (by kernel_rfl) (by kernel_rfl) (by kernel_rfl) (by kernel_rfl) (by kernel_rfl) (by kernel_rfl) ?_
                exact ih fun y hy => by rw [hx, Option.some.injEq] at hy; subst hy; simp_all [chZ]
            · refine Pk.adv 20 (by kernel_rfl) ?_
              -- LOOP
              refine Pk.inc p3 k (by kernel_rfl) (by simp at hk; omega) ?_
              refine Pk.kn F121 [.code c121_9, .blk 0, .code (.seq c121_10 .ret)] [] [(p0, .str (c :: s)), (p3, .int .i64 (Int.ofNat (k + 1)))] (by kernel_rfl) (by kernel_rfl) (by kernel_rfl) (by kernel_rfl) (by kernel_rfl) (by kernel_rfl) ?_
              exact ih fun y hy => by rw [hx, Option.some.injEq] at hy; subst hy; simp_all [chZ]
          · refine Pk.adv 24 (by kernel_rfl) ?_
            -- LOOP
            refine Pk.inc p3 k (by kernel_rfl) (by simp at hk; omega) ?_
            refine Pk.kn F121 [.code c121_9, .blk 0, .code (.seq c121_10 .ret)] [] [(p0, .str (c :: s)), (p3, .int .i64 (Int.ofNat (k + 1)))] (by kernel_rfl) (by kernel_rfl) (by kernel_rfl) (by kernel_rfl) (by kernel_rfl) (by kernel_rfl) ?_
            exact ih fun y hy => by rw [hx, Option.some.injEq] at hy; subst hy; simp_all [chZ]
        · refine Pk.adv 29 (by kernel_rfl) ?_
          -- LOOP
          refine Pk.inc p3 k (by kernel_rfl) (by simp at hk; omega) ?_
          refine Pk.kn F121 [.code c121_9, .blk 0, .code (.seq c121_10 .ret)] [] [(p0, .str (c :: s)), (p3, .int .i64 (Int.ofNat (k + 1)))] (by kernel_rfl) (by kernel_rfl) (by kernel_rfl) (by kernel_rfl) (by kernel_rfl) (by kernel_rfl) ?_
          exact ih fun y hy => by rw [hx, Option.some.injEq] at hy; subst hy; simp_all [chZ]
      · intro hall
        clear e1 e2 e3 e0
        have hlt : decide (Int.ofNat (c :: s).length < Int.ofNat (c :: s).length) = false := by simp
        refine Pk.adv 9 (by kernel_rfl) ?_
        refine Pk.know p22 (decide (Int.ofNat (List.length (c :: s)) < (↑(List.length (c :: s)) : Int))) false (by kernel_rfl) hlt ?_
        refine Pk.adv 10 (by kernel_rfl) ?_
        refine Pk.fin (v' := AV.bool true) (by kernel_rfl) (by kernel_rfl) (by kernel_rfl) ?_
        rw [wordB_of hlen hc hall]
  · have e1 : decide (Int.ofNat (c :: s).length < 1) = false := by simp; omega
    have e2 : decide (64 < Int.ofNat (c :: s).length) = true := by simp; omega
    refine Pk.adv 16 (by kernel_rfl) ?_
    refine Pk.know p13 (decide (64 < (↑(List.length (c :: s)) : Int))) true (by kernel_rfl) e2 ?_
    refine Pk.adv 13 (by kernel_rfl) ?_
    refine Pk.fin (v' := AV.bool false) (by kernel_rfl) (by kernel_rfl) (by kernel_rfl) ?_
    simp [wordB, hlen]
end Go.EV

/- Values: both say the same of them. -/
namespace Go.EV
set_option maxRecDepth 100000
def valB (k n : Int) (s : List Nat) : Bool :=
  if k = 1 ∨ k = 6 then decide (s = [])
  else if k = 2 then decide (s = []) && (decide (n = 0) || decide (n = 1))
  else if k = 3 ∨ k = 4 then decide (n = 0) && decide (Int.ofNat s.length ≤ 1000)
  else if k = 5 then decide (s = []) && (decide (0 ≤ n) && decide (n < 9007199254740992))
  else if k = 7 then decide (n = 0) && wordB s
  else false
def chk : Bool → Int
  | true => 0
  | false => 10
theorem chk_zero (b : Bool) : (chk b = 0) = (b = true) := by cases b <;> simp [chk]
theorem wordB_nl {c : Nat} {s : List Nat} (h : lowZ (Int.ofNat c) = false) : wordB (c :: s) = false := by
  simp only [wordB, h, Bool.and_false, Bool.false_and]
theorem wordB_len {s : List Nat} (h : 64 < s.length) : wordB s = false := by
  cases s with
  | nil => rfl
  | cons c s =>
    have : ¬ s.length < 64 := by simp at h; omega
    simp [wordB, this]
/-- A byte that stands at its place. -/
def okAt (k : Nat) (z : Int) : Bool := if k = 0 then lowZ z else chZ z
theorem okAt_bad {s : List Nat} {k c : Nat} (hk : s[k]? = some c) (h : okAt k (Int.ofNat c) = false) : wordB s = false := by
  unfold okAt at h
  split at h
  · rename_i e
    subst e
    cases s with
    | nil => rfl
    | cons d s => simp at hk; subst hk; exact wordB_nl h
  · exact wordB_bad hk h
theorem okAt_all {s : List Nat} (h : ∀ j, j < s.length → ∀ x, s[j]? = some x → okAt j (Int.ofNat x) = true) : wordB s = (decide ((1 : Int) ≤ Int.ofNat s.length) && decide (Int.ofNat s.length ≤ 64)) := by
  cases s with
  | nil => rfl
  | cons c s =>
    have h0 : lowZ (Int.ofNat c) = true := by have := h 0 (by simp) c rfl; simpa [okAt] using this
    by_cases hl : s.length < 64
    · rw [wordB_of hl h0 fun j hj x hx => ?_]
      · have h1 : (1 : Int) ≤ Int.ofNat (c :: s).length := by simp; omega
        have h2 : Int.ofNat (c :: s).length ≤ 64 := by simp; omega
        rw [decide_eq_true h1, decide_eq_true h2]; rfl
      · have := h j hj x hx
        unfold okAt at this
        split at this
        · exact chZ_low this
        · exact this
    · rw [wordB_len (by simp; omega)]
      have h2 : ¬ Int.ofNat (c :: s).length ≤ 64 := by simp; omega
      rw [decide_eq_false h2, Bool.and_false]
set_option maxHeartbeats 4000000 in
/-- The program's. -/
theorem l154 {E : Env} (h : Has E 154 F154) (s : List Nat) (hs : s.length ≤ mx63) : FnC E 154 [.str s] (.bool (wordB s)) := by
  refine FnC.of h rfl (by kernel_rfl) (by kernel_rfl) ?_
  refine Pk.adv 13 (by kernel_rfl) ?_
  -- LOOP
  refine Pk.kn F154 [.code c154_8, .blk 0, .code (.seq c154_9 .ret)] [] [(p0, .str s), (p6, .lst (bytesAV s)), (p7, .int .i64 (Int.ofNat (bytesAV s).length)), (p8, .int .i64 (Int.ofNat 0))] (by kernel_rfl) (by kernel_rfl) (by kernel_rfl) (by kernel_rfl) (by kernel_rfl) (by kernel_rfl) ?_
  refine Pk.upG (fun k => ⟨[.code c154_8, .blk 0, .code (.seq c154_9 .ret)], .norm, fr F154 [(p0, .str s), (p6, .lst (bytesAV s)), (p7, .int .i64 (Int.ofNat (bytesAV s).length)), (p8, .int .i64 (Int.ofNat k))], []⟩) (fun k => ∀ x, s[k]? = some x → okAt k (Int.ofNat x) = true) s.length ?_ ?_
  · intro k hk ih
    have hlt : decide (Int.ofNat k < Int.ofNat (bytesAV s).length) = true := by rw [bytesAV_len]; simp; omega
    obtain ⟨x, hx⟩ : ∃ x, s[k]? = some x := ⟨_, List.getElem?_eq_getElem hk⟩
    have hb := bytesAV_at hx
    refine Pk.adv 6 (by kernel_rfl) ?_
    refine Pk.know p9 (decide (Int.ofNat k < Int.ofNat (List.length (bytesAV s)))) true (by kernel_rfl) hlt ?_
    refine Pk.adv 7 (by kernel_rfl) ?_
    refine Pk.iaddr (es := 1) (x := X6) (i := X8) (l := bytesAV s) (q := IntKind.i64) (n := k) (c := [AV.int IntKind.u8 (Int.ofNat x)]) (by kernel_rfl) (by kernel_rfl) (by kernel_rfl) (by kernel_rfl) hb (by kernel_rfl) ?_
    refine Pk.adv 10 (by kernel_rfl) ?_
    refine Pk.split p16 (decide (97 ≤ Int.ofNat x)) (by kernel_rfl) (fun h1 => ?_) (fun h1 => ?_)
    · refine Pk.adv 5 (by kernel_rfl) ?_
      refine Pk.split p13 (decide (Int.ofNat x ≤ 122)) (by kernel_rfl) (fun h2 => ?_) (fun h2 => ?_)
      · refine Pk.adv 8 (by kernel_rfl) ?_
        -- LOOP
        refine Pk.inc p8 k (by kernel_rfl) (by have : mx63 = 9223372036854775807 := rfl; omega) ?_
        refine Pk.kn F154 [.code c154_8, .blk 0, .code (.seq c154_9 .ret)] [] [(p0, .str s), (p6, .lst (bytesAV s)), (p7, .int .i64 (Int.ofNat (bytesAV s).length)), (p8, .int .i64 (Int.ofNat (k + 1)))] (by kernel_rfl) (by kernel_rfl) (by kernel_rfl) (by kernel_rfl) (by kernel_rfl) (by kernel_rfl) ?_
        exact ih fun y hy => by rw [hx, Option.some.injEq] at hy; subst hy; clear ih hlt hb hx; (simp [okAt, chZ, lowZ, digZ] at *; first | omega | (split <;> omega))
      · refine Pk.adv 6 (by kernel_rfl) ?_
        refine Pk.split p23 (decide (0 < Int.ofNat k)) (by kernel_rfl) (fun h3 => ?_) (fun h3 => ?_)
        · refine Pk.adv 3 (by kernel_rfl) ?_
          refine Pk.split p26 (decide (48 ≤ Int.ofNat x)) (by kernel_rfl) (fun h4 => ?_) (fun h4 => ?_)
          · refine Pk.adv 4 (by kernel_rfl) ?_
            refine Pk.split p30 (decide (Int.ofNat x ≤ 57)) (by kernel_rfl) (fun h5 => ?_) (fun h5 => ?_)
            · refine Pk.adv 26 (by kernel_rfl) ?_
              -- LOOP
              refine Pk.inc p8 k (by kernel_rfl) (by have : mx63 = 9223372036854775807 := rfl; omega) ?_
              refine Pk.kn F154 [.code c154_8, .blk 0, .code (.seq c154_9 .ret)] [] [(p0, .str s), (p6, .lst (bytesAV s)), (p7, .int .i64 (Int.ofNat (bytesAV s).length)), (p8, .int .i64 (Int.ofNat (k + 1)))] (by kernel_rfl) (by kernel_rfl) (by kernel_rfl) (by kernel_rfl) (by kernel_rfl) (by kernel_rfl) ?_
              exact ih fun y hy => by rw [hx, Option.some.injEq] at hy; subst hy; clear ih hlt hb hx; (simp [okAt, chZ, lowZ, digZ] at *; first | omega | (split <;> omega))
            · refine Pk.adv 4 (by kernel_rfl) ?_
              refine Pk.split p34 (decide (Int.ofNat x = 46)) (by kernel_rfl) (fun h6 => ?_) (fun h6 => ?_)
              · refine Pk.adv 22 (by kernel_rfl) ?_
                -- LOOP
                refine Pk.inc p8 k (by kernel_rfl) (by have : mx63 = 9223372036854775807 := rfl; omega) ?_
                refine Pk.kn F154 [.code c154_8, .blk 0, .code (.seq c154_9 .ret)] [] [(p0, .str s), (p6, .lst (bytesAV s)), (p7, .int .i64 (Int.ofNat (bytesAV s).length)), (p8, .int .i64 (Int.ofNat (k + 1)))] (by kernel_rfl) (by kernel_rfl) (by kernel_rfl) (by kernel_rfl) (by kernel_rfl) (by kernel_rfl) ?_
                exact ih fun y hy => by rw [hx, Option.some.injEq] at hy; subst hy; clear ih hlt hb hx; (simp [okAt, chZ, lowZ, digZ] at *; first | omega | (split <;> omega))
              · refine Pk.adv 4 (by kernel_rfl) ?_
                refine Pk.split p38 (decide (Int.ofNat x = 95)) (by kernel_rfl) (fun h7 => ?_) (fun h7 => ?_)
                · refine Pk.adv 18 (by kernel_rfl) ?_
                  -- LOOP
                  refine Pk.inc p8 k (by kernel_rfl) (by have : mx63 = 9223372036854775807 := rfl; omega) ?_
                  refine Pk.kn F154 [.code c154_8, .blk 0, .code (.seq c154_9 .ret)] [] [(p0, .str s), (p6, .lst (bytesAV s)), (p7, .int .i64 (Int.ofNat (bytesAV s).length)), (p8, .int .i64 (Int.ofNat (k + 1)))] (by kernel_rfl) (by kernel_rfl) (by kernel_rfl) (by kernel_rfl) (by kernel_rfl) (by kernel_rfl) ?_
                  exact ih fun y hy => by rw [hx, Option.some.injEq] at hy; subst hy; clear ih hlt hb hx; (simp [okAt, chZ, lowZ, digZ] at *; first | omega | (split <;> omega))
                · refine Pk.adv 4 (by kernel_rfl) ?_
                  refine Pk.split p42 (decide (Int.ofNat x = 45)) (by kernel_rfl) (fun h8 => ?_) (fun h8 => ?_)
                  · refine Pk.adv 14 (by kernel_rfl) ?_
                    -- LOOP
                    refine Pk.inc p8 k (by kernel_rfl) (by have : mx63 = 9223372036854775807 := rfl; omega) ?_
                    refine Pk.kn F154 [.code c154_8, .blk 0, .code (.seq c154_9 .ret)] [] [(p0, .str s), (p6, .lst (bytesAV s)), (p7, .int .i64 (Int.ofNat (bytesAV s).length)), (p8, .int .i64 (Int.ofNat (k + 1)))] (by kernel_rfl) (by kernel_rfl) (by kernel_rfl) (by kernel_rfl) (by kernel_rfl) (by kernel_rfl) ?_
                    exact ih fun y hy => by rw [hx, Option.some.injEq] at hy; subst hy; clear ih hlt hb hx; (simp [okAt, chZ, lowZ, digZ] at *; first | omega | (split <;> omega))
                  · refine Pk.adv 6 (by kernel_rfl) ?_
                    refine Pk.split p20 (decide (Int.ofNat x = 47)) (by kernel_rfl) (fun h9 => ?_) (fun h9 => ?_)
                    · refine Pk.adv 8 (by kernel_rfl) ?_
                      -- LOOP
                      refine Pk.inc p8 k (by kernel_rfl) (by have : mx63 = 9223372036854775807 := rfl; omega) ?_
                      refine Pk.kn F154 [.code c154_8, .blk 0, .code (.seq c154_9 .ret)] [] [(p0, .str s), (p6, .lst (bytesAV s)), (p7, .int .i64 (Int.ofNat (bytesAV s).length)), (p8, .int .i64 (Int.ofNat (k + 1)))] (by kernel_rfl) (by kernel_rfl) (by kernel_rfl) (by kernel_rfl) (by kernel_rfl) (by kernel_rfl) ?_
                      exact ih fun y hy => by rw [hx, Option.some.injEq] at hy; subst hy; clear ih hlt hb hx; (simp [okAt, chZ, lowZ, digZ] at *; first | omega | (split <;> omega))
                    · refine Pk.adv 12 (by kernel_rfl) ?_
                      refine Pk.fin (v' := AV.bool false) (by kernel_rfl) (by kernel_rfl) (by kernel_rfl) ?_
                      clear ih hlt hb; rw [okAt_bad hx (by (simp [okAt, chZ, lowZ, digZ] at *; first | omega | (split <;> omega)))]
          · refine Pk.adv 8 (by kernel_rfl) ?_
            refine Pk.split p34 (decide (Int.ofNat x = 46)) (by kernel_rfl) (fun h5 => ?_) (fun h5 => ?_)
            · refine Pk.adv 22 (by kernel_rfl) ?_
              -- LOOP
              refine Pk.inc p8 k (by kernel_rfl) (by have : mx63 = 9223372036854775807 := rfl; omega) ?_
              refine Pk.kn F154 [.code c154_8, .blk 0, .code (.seq c154_9 .ret)] [] [(p0, .str s), (p6, .lst (bytesAV s)), (p7, .int .i64 (Int.ofNat (bytesAV s).length)), (p8, .int .i64 (Int.ofNat (k + 1)))] (by kernel_rfl) (by kernel_rfl) (by kernel_rfl) (by kernel_rfl) (by kernel_rfl) (by kernel_rfl) ?_
              exact ih fun y hy => by rw [hx, Option.some.injEq] at hy; subst hy; clear ih hlt hb hx; (simp [okAt, chZ, lowZ, digZ] at *; first | omega | (split <;> omega))
            · refine Pk.adv 4 (by kernel_rfl) ?_
              refine Pk.split p38 (decide (Int.ofNat x = 95)) (by kernel_rfl) (fun h6 => ?_) (fun h6 => ?_)
              · refine Pk.adv 18 (by kernel_rfl) ?_
                -- LOOP
                refine Pk.inc p8 k (by kernel_rfl) (by have : mx63 = 9223372036854775807 := rfl; omega) ?_
                refine Pk.kn F154 [.code c154_8, .blk 0, .code (.seq c154_9 .ret)] [] [(p0, .str s), (p6, .lst (bytesAV s)), (p7, .int .i64 (Int.ofNat (bytesAV s).length)), (p8, .int .i64 (Int.ofNat (k + 1)))] (by kernel_rfl) (by kernel_rfl) (by kernel_rfl) (by kernel_rfl) (by kernel_rfl) (by kernel_rfl) ?_
                exact ih fun y hy => by rw [hx, Option.some.injEq] at hy; subst hy; clear ih hlt hb hx; (simp [okAt, chZ, lowZ, digZ] at *; first | omega | (split <;> omega))
              · refine Pk.adv 4 (by kernel_rfl) ?_
                refine Pk.split p42 (decide (Int.ofNat x = 45)) (by kernel_rfl) (fun h7 => ?_) (fun h7 => ?_)
                · refine Pk.adv 14 (by kernel_rfl) ?_
                  -- LOOP
                  refine Pk.inc p8 k (by kernel_rfl) (by have : mx63 = 9223372036854775807 := rfl; omega) ?_
                  refine Pk.kn F154 [.code c154_8, .blk 0, .code (.seq c154_9 .ret)] [] [(p0, .str s), (p6, .lst (bytesAV s)), (p7, .int .i64 (Int.ofNat (bytesAV s).length)), (p8, .int .i64 (Int.ofNat (k + 1)))] (by kernel_rfl) (by kernel_rfl) (by kernel_rfl) (by kernel_rfl) (by kernel_rfl) (by kernel_rfl) ?_
                  exact ih fun y hy => by rw [hx, Option.some.injEq] at hy; subst hy; clear ih hlt hb hx; (simp [okAt, chZ, lowZ, digZ] at *; first | omega | (split <;> omega))
                · refine Pk.adv 6 (by kernel_rfl) ?_
                  refine Pk.split p20 (decide (Int.ofNat x = 47)) (by kernel_rfl) (fun h8 => ?_) (fun h8 => ?_)
                  · refine Pk.adv 8 (by kernel_rfl) ?_
                    -- LOOP
                    refine Pk.inc p8 k (by kernel_rfl) (by have : mx63 = 9223372036854775807 := rfl; omega) ?_
                    refine Pk.kn F154 [.code c154_8, .blk 0, .code (.seq c154_9 .ret)] [] [(p0, .str s), (p6, .lst (bytesAV s)), (p7, .int .i64 (Int.ofNat (bytesAV s).length)), (p8, .int .i64 (Int.ofNat (k + 1)))] (by kernel_rfl) (by kernel_rfl) (by kernel_rfl) (by kernel_rfl) (by kernel_rfl) (by kernel_rfl) ?_
                    exact ih fun y hy => by rw [hx, Option.some.injEq] at hy; subst hy; clear ih hlt hb hx; (simp [okAt, chZ, lowZ, digZ] at *; first | omega | (split <;> omega))
                  · refine Pk.adv 12 (by kernel_rfl) ?_
                    refine Pk.fin (v' := AV.bool false) (by kernel_rfl) (by kernel_rfl) (by kernel_rfl) ?_
                    clear ih hlt hb; rw [okAt_bad hx (by (simp [okAt, chZ, lowZ, digZ] at *; first | omega | (split <;> omega)))]
        · refine Pk.adv 37 (by kernel_rfl) ?_
          refine Pk.fin (v' := AV.bool false) (by kernel_rfl) (by kernel_rfl) (by kernel_rfl) ?_
          clear ih hlt hb; rw [okAt_bad hx (by (simp [okAt, chZ, lowZ, digZ] at *; first | omega | (split <;> omega)))]
    · refine Pk.adv 11 (by kernel_rfl) ?_
      refine Pk.split p23 (decide (0 < Int.ofNat k)) (by kernel_rfl) (fun h2 => ?_) (fun h2 => ?_)
      · refine Pk.adv 3 (by kernel_rfl) ?_
        refine Pk.split p26 (decide (48 ≤ Int.ofNat x)) (by kernel_rfl) (fun h3 => ?_) (fun h3 => ?_)
        · refine Pk.adv 4 (by kernel_rfl) ?_
          refine Pk.split p30 (decide (Int.ofNat x ≤ 57)) (by kernel_rfl) (fun h4 => ?_) (fun h4 => ?_)
          · refine Pk.adv 26 (by kernel_rfl) ?_
            -- LOOP
            refine Pk.inc p8 k (by kernel_rfl) (by have : mx63 = 9223372036854775807 := rfl; omega) ?_
            refine Pk.kn F154 [.code c154_8, .blk 0, .code (.seq c154_9 .ret)] [] [(p0, .str s), (p6, .lst (bytesAV s)), (p7, .int .i64 (Int.ofNat (bytesAV s).length)), (p8, .int .i64 (Int.ofNat (k + 1)))] (by kernel_rfl) (by kernel_rfl) (by kernel_rfl) (by kernel_rfl) (by kernel_rfl) (by kernel_rfl) ?_
            exact ih fun y hy => by rw [hx, Option.some.injEq] at hy; subst hy; clear ih hlt hb hx; (simp [okAt, chZ, lowZ, digZ] at *; first | omega | (split <;> omega))
          · refine Pk.adv 4 (by kernel_rfl) ?_
            refine Pk.split p34 (decide (Int.ofNat x = 46)) (by kernel_rfl) (fun h5 => ?_) (fun h5 => ?_)
            · refine Pk.adv 22 (by kernel_rfl) ?_
              -- LOOP
              refine Pk.inc p8 k (by kernel_rfl) (by have : mx63 = 9223372036854775807 := rfl; omega) ?_
              refine Pk.kn F154 [.code c154_8, .blk 0, .code (.seq c154_9 .ret)] [] [(p0, .str s), (p6, .lst (bytesAV s)), (p7, .int .i64 (Int.ofNat (bytesAV s).length)), (p8, .int .i64 (Int.ofNat (k + 1)))] (by kernel_rfl) (by kernel_rfl) (by kernel_rfl) (by kernel_rfl) (by kernel_rfl) (by kernel_rfl) ?_
              exact ih fun y hy => by rw [hx, Option.some.injEq] at hy; subst hy; clear ih hlt hb hx; (simp [okAt, chZ, lowZ, digZ] at *; first | omega | (split <;> omega))
            · refine Pk.adv 4 (by kernel_rfl) ?_
              refine Pk.split p38 (decide (Int.ofNat x = 95)) (by kernel_rfl) (fun h6 => ?_) (fun h6 => ?_)
              · refine Pk.adv 18 (by kernel_rfl) ?_
                -- LOOP
                refine Pk.inc p8 k (by kernel_rfl) (by have : mx63 = 9223372036854775807 := rfl; omega) ?_
                refine Pk.kn F154 [.code c154_8, .blk 0, .code (.seq c154_9 .ret)] [] [(p0, .str s), (p6, .lst (bytesAV s)), (p7, .int .i64 (Int.ofNat (bytesAV s).length)), (p8, .int .i64 (Int.ofNat (k + 1)))] (by kernel_rfl) (by kernel_rfl) (by kernel_rfl) (by kernel_rfl) (by kernel_rfl) (by kernel_rfl) ?_
                exact ih fun y hy => by rw [hx, Option.some.injEq] at hy; subst hy; clear ih hlt hb hx; (simp [okAt, chZ, lowZ, digZ] at *; first | omega | (split <;> omega))
              · refine Pk.adv 4 (by kernel_rfl) ?_
                refine Pk.split p42 (decide (Int.ofNat x = 45)) (by kernel_rfl) (fun h7 => ?_) (fun h7 => ?_)
                · refine Pk.adv 14 (by kernel_rfl) ?_
                  -- LOOP
                  refine Pk.inc p8 k (by kernel_rfl) (by have : mx63 = 9223372036854775807 := rfl; omega) ?_
                  refine Pk.kn F154 [.code c154_8, .blk 0, .code (.seq c154_9 .ret)] [] [(p0, .str s), (p6, .lst (bytesAV s)), (p7, .int .i64 (Int.ofNat (bytesAV s).length)), (p8, .int .i64 (Int.ofNat (k + 1)))] (by kernel_rfl) (by kernel_rfl) (by kernel_rfl) (by kernel_rfl) (by kernel_rfl) (by kernel_rfl) ?_
                  exact ih fun y hy => by rw [hx, Option.some.injEq] at hy; subst hy; clear ih hlt hb hx; (simp [okAt, chZ, lowZ, digZ] at *; first | omega | (split <;> omega))
                · refine Pk.adv 6 (by kernel_rfl) ?_
                  refine Pk.split p20 (decide (Int.ofNat x = 47)) (by kernel_rfl) (fun h8 => ?_) (fun h8 => ?_)
                  · refine Pk.adv 8 (by kernel_rfl) ?_
                    -- LOOP
                    refine Pk.inc p8 k (by kernel_rfl) (by have : mx63 = 9223372036854775807 := rfl; omega) ?_
                    refine Pk.kn F154 [.code c154_8, .blk 0, .code (.seq c154_9 .ret)] [] [(p0, .str s), (p6, .lst (bytesAV s)), (p7, .int .i64 (Int.ofNat (bytesAV s).length)), (p8, .int .i64 (Int.ofNat (k + 1)))] (by kernel_rfl) (by kernel_rfl) (by kernel_rfl) (by kernel_rfl) (by kernel_rfl) (by kernel_rfl) ?_
                    exact ih fun y hy => by rw [hx, Option.some.injEq] at hy; subst hy; clear ih hlt hb hx; (simp [okAt, chZ, lowZ, digZ] at *; first | omega | (split <;> omega))
                  · refine Pk.adv 12 (by kernel_rfl) ?_
                    refine Pk.fin (v' := AV.bool false) (by kernel_rfl) (by kernel_rfl) (by kernel_rfl) ?_
                    clear ih hlt hb; rw [okAt_bad hx (by (simp [okAt, chZ, lowZ, digZ] at *; first | omega | (split <;> omega)))]
        · refine Pk.adv 8 (by kernel_rfl) ?_
          refine Pk.split p34 (decide (Int.ofNat x = 46)) (by kernel_rfl) (fun h4 => ?_) (fun h4 => ?_)
          · refine Pk.adv 22 (by kernel_rfl) ?_
            -- LOOP
            refine Pk.inc p8 k (by kernel_rfl) (by have : mx63 = 9223372036854775807 := rfl; omega) ?_
            refine Pk.kn F154 [.code c154_8, .blk 0, .code (.seq c154_9 .ret)] [] [(p0, .str s), (p6, .lst (bytesAV s)), (p7, .int .i64 (Int.ofNat (bytesAV s).length)), (p8, .int .i64 (Int.ofNat (k + 1)))] (by kernel_rfl) (by kernel_rfl) (by kernel_rfl) (by kernel_rfl) (by kernel_rfl) (by kernel_rfl) ?_
            exact ih fun y hy => by rw [hx, Option.some.injEq] at hy; subst hy; clear ih hlt hb hx; (simp [okAt, chZ, lowZ, digZ] at *; first | omega | (split <;> omega))
          · refine Pk.adv 4 (by kernel_rfl) ?_
            refine Pk.split p38 (decide (Int.ofNat x = 95)) (by kernel_rfl) (fun h5 => ?_) (fun h5 => ?_)
            · refine Pk.adv 18 (by kernel_rfl) ?_
              -- LOOP
              refine Pk.inc p8 k (by kernel_rfl) (by have : mx63 = 9223372036854775807 := rfl; omega) ?_
              refine Pk.kn F154 [.code c154_8, .blk 0, .code (.seq c154_9 .ret)] [] [(p0, .str s), (p6, .lst (bytesAV s)), (p7, .int .i64 (Int.ofNat (bytesAV s).length)), (p8, .int .i64 (Int.ofNat (k + 1)))] (by kernel_rfl) (by kernel_rfl) (by kernel_rfl) (by kernel_rfl) (by kernel_rfl) (by kernel_rfl) ?_
              exact ih fun y hy => by rw [hx, Option.some.injEq] at hy; subst hy; clear ih hlt hb hx; (simp [okAt, chZ, lowZ, digZ] at *; first | omega | (split <;> omega))
            · refine Pk.adv 4 (by kernel_rfl) ?_
              refine Pk.split p42 (decide (Int.ofNat x = 45)) (by kernel_rfl) (fun h6 => ?_) (fun h6 => ?_)
              · refine Pk.adv 14 (by kernel_rfl) ?_
                -- LOOP
                refine Pk.inc p8 k (by kernel_rfl) (by have : mx63 = 9223372036854775807 := rfl; omega) ?_
                refine Pk.kn F154 [.code c154_8, .blk 0, .code (.seq c154_9 .ret)] [] [(p0, .str s), (p6, .lst (bytesAV s)), (p7, .int .i64 (Int.ofNat (bytesAV s).length)), (p8, .int .i64 (Int.ofNat (k + 1)))] (by kernel_rfl) (by kernel_rfl) (by kernel_rfl) (by kernel_rfl) (by kernel_rfl) (by kernel_rfl) ?_
                exact ih fun y hy => by rw [hx, Option.some.injEq] at hy; subst hy; clear ih hlt hb hx; (simp [okAt, chZ, lowZ, digZ] at *; first | omega | (split <;> omega))
              · refine Pk.adv 6 (by kernel_rfl) ?_
                refine Pk.split p20 (decide (Int.ofNat x = 47)) (by kernel_rfl) (fun h7 => ?_) (fun h7 => ?_)
                · refine Pk.adv 8 (by kernel_rfl) ?_
                  -- LOOP
                  refine Pk.inc p8 k (by kernel_rfl) (by have : mx63 = 9223372036854775807 := rfl; omega) ?_
                  refine Pk.kn F154 [.code c154_8, .blk 0, .code (.seq c154_9 .ret)] [] [(p0, .str s), (p6, .lst (bytesAV s)), (p7, .int .i64 (Int.ofNat (bytesAV s).length)), (p8, .int .i64 (Int.ofNat (k + 1)))] (by kernel_rfl) (by kernel_rfl) (by kernel_rfl) (by kernel_rfl) (by kernel_rfl) (by kernel_rfl) ?_
                  exact ih fun y hy => by rw [hx, Option.some.injEq] at hy; subst hy; clear ih hlt hb hx; (simp [okAt, chZ, lowZ, digZ] at *; first | omega | (split <;> omega))
                · refine Pk.adv 12 (by kernel_rfl) ?_
                  refine Pk.fin (v' := AV.bool false) (by kernel_rfl) (by kernel_rfl) (by kernel_rfl) ?_
                  clear ih hlt hb; rw [okAt_bad hx (by (simp [okAt, chZ, lowZ, digZ] at *; first | omega | (split <;> omega)))]
      · refine Pk.adv 37 (by kernel_rfl) ?_
        refine Pk.fin (v' := AV.bool false) (by kernel_rfl) (by kernel_rfl) (by kernel_rfl) ?_
        clear ih hlt hb; rw [okAt_bad hx (by (simp [okAt, chZ, lowZ, digZ] at *; first | omega | (split <;> omega)))]
  · intro hall
    have hlt : decide (Int.ofNat s.length < Int.ofNat (bytesAV s).length) = false := by rw [bytesAV_len]; simp
    refine Pk.adv 6 (by kernel_rfl) ?_
    refine Pk.know p9 (decide (Int.ofNat (List.length s) < Int.ofNat (List.length (bytesAV s)))) false (by kernel_rfl) hlt ?_
    refine Pk.adv 11 (by kernel_rfl) ?_
    refine Pk.split p51 (decide (1 ≤ (↑(List.length s) : Int))) (by kernel_rfl) (fun h1 => ?_) (fun h1 => ?_)
    · refine Pk.adv 7 (by kernel_rfl) ?_
      refine Pk.fin (v' := AV.bool (decide ((↑(List.length s) : Int) ≤ 64))) (by kernel_rfl) (by kernel_rfl) (by kernel_rfl) ?_
      rw [okAt_all hall]; clear hall hlt; simp_all <;> omega
    · refine Pk.adv 7 (by kernel_rfl) ?_
      refine Pk.fin (v' := AV.bool false) (by kernel_rfl) (by kernel_rfl) (by kernel_rfl) ?_
      rw [okAt_all hall]; clear hall hlt; simp_all <;> omega
set_option maxHeartbeats 4000000 in
theorem l122 {E : Env} (h : Has E 122 F122.pure) (h121 : Has E 121 F121.pure) (h159 : Has E 159 F159.pure) (h160 : Has E 160 F160.pure) (k n : Int) (s : List Nat) : FnC E 122 [.agg [.int .i64 k, .int .i64 n, .str s]] (.bool (valB k n s)) := by
  refine FnC.of h rfl (by kernel_rfl) (by kernel_rfl) ?_
  have hw := l121 h121 h159 h160 s
  refine Pk.adv 18 (by kernel_rfl) ?_
  refine Pk.split p5 (decide (k = 1)) (by kernel_rfl) (fun h1 => ?_) (fun h1 => ?_)
  · refine Pk.adv 13 (by kernel_rfl) ?_
    refine Pk.fin (v' := AV.bool (decide (s = []))) (by kernel_rfl) (by kernel_rfl) (by kernel_rfl) ?_
    simp_all [valB] <;> omega
  · refine Pk.adv 5 (by kernel_rfl) ?_
    refine Pk.split p5 (decide (k = 6)) (by kernel_rfl) (fun h2 => ?_) (fun h2 => ?_)
    · refine Pk.adv 11 (by kernel_rfl) ?_
      refine Pk.fin (v' := AV.bool (decide (s = []))) (by kernel_rfl) (by kernel_rfl) (by kernel_rfl) ?_
      simp_all [valB] <;> omega
    · refine Pk.adv 6 (by kernel_rfl) ?_
      refine Pk.split p11 (decide (k = 2)) (by kernel_rfl) (fun h3 => ?_) (fun h3 => ?_)
      · refine Pk.adv 7 (by kernel_rfl) ?_
        refine Pk.split p16 (decide (s = [])) (by kernel_rfl) (fun h4 => ?_) (fun h4 => ?_)
        · refine Pk.adv 4 (by kernel_rfl) ?_
          refine Pk.split p20 (decide (n = 0)) (by kernel_rfl) (fun h5 => ?_) (fun h5 => ?_)
          · refine Pk.adv 10 (by kernel_rfl) ?_
            refine Pk.fin (v' := AV.bool true) (by kernel_rfl) (by kernel_rfl) (by kernel_rfl) ?_
            simp_all [valB] <;> omega
          · refine Pk.adv 10 (by kernel_rfl) ?_
            refine Pk.fin (v' := AV.bool (decide (n = 1))) (by kernel_rfl) (by kernel_rfl) (by kernel_rfl) ?_
            simp_all [valB] <;> omega
        · refine Pk.adv 14 (by kernel_rfl) ?_
          refine Pk.fin (v' := AV.bool false) (by kernel_rfl) (by kernel_rfl) (by kernel_rfl) ?_
          simp_all [valB] <;> omega
      · refine Pk.adv 7 (by kernel_rfl) ?_
        refine Pk.split p26 (decide (k = 3)) (by kernel_rfl) (fun h4 => ?_) (fun h4 => ?_)
        · refine Pk.adv 9 (by kernel_rfl) ?_
          refine Pk.split p32 (decide (n = 0)) (by kernel_rfl) (fun h5 => ?_) (fun h5 => ?_)
          · refine Pk.adv 10 (by kernel_rfl) ?_
            refine Pk.fin (v' := AV.bool (decide ((↑(List.length s) : Int) ≤ 1000))) (by kernel_rfl) (by kernel_rfl) (by kernel_rfl) ?_
            simp_all [valB] <;> omega
          · refine Pk.adv 10 (by kernel_rfl) ?_
            refine Pk.fin (v' := AV.bool false) (by kernel_rfl) (by kernel_rfl) (by kernel_rfl) ?_
            simp_all [valB] <;> omega
        · refine Pk.adv 5 (by kernel_rfl) ?_
          refine Pk.split p26 (decide (k = 4)) (by kernel_rfl) (fun h5 => ?_) (fun h5 => ?_)
          · refine Pk.adv 7 (by kernel_rfl) ?_
            refine Pk.split p32 (decide (n = 0)) (by kernel_rfl) (fun h6 => ?_) (fun h6 => ?_)
            · refine Pk.adv 10 (by kernel_rfl) ?_
              refine Pk.fin (v' := AV.bool (decide ((↑(List.length s) : Int) ≤ 1000))) (by kernel_rfl) (by kernel_rfl) (by kernel_rfl) ?_
              simp_all [valB] <;> omega
            · refine Pk.adv 10 (by kernel_rfl) ?_
              refine Pk.fin (v' := AV.bool false) (by kernel_rfl) (by kernel_rfl) (by kernel_rfl) ?_
              simp_all [valB] <;> omega
          · refine Pk.adv 6 (by kernel_rfl) ?_
            refine Pk.split p38 (decide (k = 5)) (by kernel_rfl) (fun h6 => ?_) (fun h6 => ?_)
            · refine Pk.adv 7 (by kernel_rfl) ?_
              refine Pk.split p43 (decide (s = [])) (by kernel_rfl) (fun h7 => ?_) (fun h7 => ?_)
              · refine Pk.adv 5 (by kernel_rfl) ?_
                refine Pk.split p48 (decide (0 ≤ n)) (by kernel_rfl) (fun h8 => ?_) (fun h8 => ?_)
                · refine Pk.adv 9 (by kernel_rfl) ?_
                  refine Pk.fin (v' := AV.bool (decide (n < 9007199254740992))) (by kernel_rfl) (by kernel_rfl) (by kernel_rfl) ?_
                  simp_all [valB] <;> omega
                · refine Pk.adv 9 (by kernel_rfl) ?_
                  refine Pk.fin (v' := AV.bool false) (by kernel_rfl) (by kernel_rfl) (by kernel_rfl) ?_
                  simp_all [valB] <;> omega
              · refine Pk.adv 14 (by kernel_rfl) ?_
                refine Pk.fin (v' := AV.bool false) (by kernel_rfl) (by kernel_rfl) (by kernel_rfl) ?_
                simp_all [valB] <;> omega
            · refine Pk.adv 6 (by kernel_rfl) ?_
              refine Pk.split p53 (decide (k = 7)) (by kernel_rfl) (fun h7 => ?_) (fun h7 => ?_)
              · refine Pk.adv 7 (by kernel_rfl) ?_
                refine Pk.split p58 (decide (n = 0)) (by kernel_rfl) (fun h8 => ?_) (fun h8 => ?_)
                · refine Pk.adv 2 (by kernel_rfl) ?_
                  refine Pk.call0 (g := CX.c (AV.fn 121 [])) (args := [X60]) (k := 121) (caps := []) (as := [AV.str s]) (vs := [AV.str s]) (v := AV.bool (wordB s)) (by kernel_rfl) (by kernel_rfl) (by kernel_rfl) (by kernel_rfl) (by kernel_rfl) (by kernel_rfl) (by kernel_rfl) (hw) ?_
                  refine Pk.adv 6 (by kernel_rfl) ?_
                  refine Pk.fin (v' := AV.bool (wordB s)) (by kernel_rfl) (by kernel_rfl) (by kernel_rfl) ?_
                  simp_all [valB] <;> omega
                · refine Pk.adv 9 (by kernel_rfl) ?_
                  refine Pk.fin (v' := AV.bool false) (by kernel_rfl) (by kernel_rfl) (by kernel_rfl) ?_
                  simp_all [valB] <;> omega
              · refine Pk.adv 8 (by kernel_rfl) ?_
                refine Pk.fin (v' := AV.bool false) (by kernel_rfl) (by kernel_rfl) (by kernel_rfl) ?_
                simp_all [valB] <;> omega
set_option maxHeartbeats 4000000 in
theorem l107 {E : Env} (h : Has E 107 F107) (h154 : Has E 154 F154) (k n : Int) (s : List Nat) (hs : s.length ≤ mx63) : FnC E 107 [.agg [.int .i64 k, .int .i64 n, .str s]] (.bool (valB k n s)) := by
  refine FnC.of h rfl (by kernel_rfl) (by kernel_rfl) ?_
  have hw := l154 h154 s hs
  refine Pk.adv 29 (by kernel_rfl) ?_
  refine Pk.split p5 (decide (k = 2)) (by kernel_rfl) (fun h1 => ?_) (fun h1 => ?_)
  · refine Pk.adv 11 (by kernel_rfl) ?_
    refine Pk.split p20 (decide (n < 0)) (by kernel_rfl) (fun h2 => ?_) (fun h2 => ?_)
    · refine Pk.adv 21 (by kernel_rfl) ?_
      refine Pk.fin (v' := AV.bool false) (by kernel_rfl) (by kernel_rfl) (by kernel_rfl) ?_
      simp_all [valB] <;> omega
    · refine Pk.adv 5 (by kernel_rfl) ?_
      refine Pk.split p24 (decide (1 < n)) (by kernel_rfl) (fun h3 => ?_) (fun h3 => ?_)
      · refine Pk.adv 16 (by kernel_rfl) ?_
        refine Pk.fin (v' := AV.bool false) (by kernel_rfl) (by kernel_rfl) (by kernel_rfl) ?_
        simp_all [valB] <;> omega
      · refine Pk.adv 21 (by kernel_rfl) ?_
        refine Pk.fin (v' := AV.bool (decide (s = []))) (by kernel_rfl) (by kernel_rfl) (by kernel_rfl) ?_
        simp_all [valB] <;> omega
  · refine Pk.adv 9 (by kernel_rfl) ?_
    refine Pk.split p7 (decide (k = 1)) (by kernel_rfl) (fun h2 => ?_) (fun h2 => ?_)
    · refine Pk.adv 27 (by kernel_rfl) ?_
      refine Pk.fin (v' := AV.bool (decide (s = []))) (by kernel_rfl) (by kernel_rfl) (by kernel_rfl) ?_
      simp_all [valB] <;> omega
    · refine Pk.adv 5 (by kernel_rfl) ?_
      refine Pk.split p7 (decide (k = 6)) (by kernel_rfl) (fun h3 => ?_) (fun h3 => ?_)
      · refine Pk.adv 25 (by kernel_rfl) ?_
        refine Pk.fin (v' := AV.bool (decide (s = []))) (by kernel_rfl) (by kernel_rfl) (by kernel_rfl) ?_
        simp_all [valB] <;> omega
      · refine Pk.adv 8 (by kernel_rfl) ?_
        refine Pk.split p10 (decide (k = 5)) (by kernel_rfl) (fun h4 => ?_) (fun h4 => ?_)
        · refine Pk.adv 16 (by kernel_rfl) ?_
          refine Pk.split p31 (decide (s = [])) (by kernel_rfl) (fun h5 => ?_) (fun h5 => ?_)
          · refine Pk.adv 5 (by kernel_rfl) ?_
            refine Pk.split p36 (decide (0 ≤ n)) (by kernel_rfl) (fun h6 => ?_) (fun h6 => ?_)
            · refine Pk.adv 14 (by kernel_rfl) ?_
              refine Pk.fin (v' := AV.bool (decide (n < 9007199254740992))) (by kernel_rfl) (by kernel_rfl) (by kernel_rfl) ?_
              simp_all [valB] <;> omega
            · refine Pk.adv 14 (by kernel_rfl) ?_
              refine Pk.fin (v' := AV.bool false) (by kernel_rfl) (by kernel_rfl) (by kernel_rfl) ?_
              simp_all [valB] <;> omega
          · refine Pk.adv 19 (by kernel_rfl) ?_
            refine Pk.fin (v' := AV.bool false) (by kernel_rfl) (by kernel_rfl) (by kernel_rfl) ?_
            simp_all [valB] <;> omega
        · refine Pk.adv 9 (by kernel_rfl) ?_
          refine Pk.split p12 (decide (k = 3)) (by kernel_rfl) (fun h5 => ?_) (fun h5 => ?_)
          · refine Pk.adv 20 (by kernel_rfl) ?_
            refine Pk.split p44 (decide (n = 0)) (by kernel_rfl) (fun h6 => ?_) (fun h6 => ?_)
            · refine Pk.adv 13 (by kernel_rfl) ?_
              refine Pk.fin (v' := AV.bool (decide ((↑(List.length s) : Int) ≤ 1000))) (by kernel_rfl) (by kernel_rfl) (by kernel_rfl) ?_
              simp_all [valB] <;> omega
            · refine Pk.adv 13 (by kernel_rfl) ?_
              refine Pk.fin (v' := AV.bool false) (by kernel_rfl) (by kernel_rfl) (by kernel_rfl) ?_
              simp_all [valB] <;> omega
          · refine Pk.adv 5 (by kernel_rfl) ?_
            refine Pk.split p12 (decide (k = 4)) (by kernel_rfl) (fun h6 => ?_) (fun h6 => ?_)
            · refine Pk.adv 18 (by kernel_rfl) ?_
              refine Pk.split p44 (decide (n = 0)) (by kernel_rfl) (fun h7 => ?_) (fun h7 => ?_)
              · refine Pk.adv 13 (by kernel_rfl) ?_
                refine Pk.fin (v' := AV.bool (decide ((↑(List.length s) : Int) ≤ 1000))) (by kernel_rfl) (by kernel_rfl) (by kernel_rfl) ?_
                simp_all [valB] <;> omega
              · refine Pk.adv 13 (by kernel_rfl) ?_
                refine Pk.fin (v' := AV.bool false) (by kernel_rfl) (by kernel_rfl) (by kernel_rfl) ?_
                simp_all [valB] <;> omega
            · refine Pk.adv 7 (by kernel_rfl) ?_
              refine Pk.split p15 (decide (k = 7)) (by kernel_rfl) (fun h7 => ?_) (fun h7 => ?_)
              · refine Pk.adv 19 (by kernel_rfl) ?_
                refine Pk.split p53 (decide (n = 0)) (by kernel_rfl) (fun h8 => ?_) (fun h8 => ?_)
                · refine Pk.adv 2 (by kernel_rfl) ?_
                  refine Pk.call0 (g := CX.c (AV.fn 154 [])) (args := [X55]) (k := 154) (caps := []) (as := [AV.str s]) (vs := [AV.str s]) (v := AV.bool (wordB s)) (by kernel_rfl) (by kernel_rfl) (by kernel_rfl) (by kernel_rfl) (by kernel_rfl) (by kernel_rfl) (by kernel_rfl) (hw) ?_
                  refine Pk.adv 7 (by kernel_rfl) ?_
                  refine Pk.fin (v' := AV.bool (wordB s)) (by kernel_rfl) (by kernel_rfl) (by kernel_rfl) ?_
                  simp_all [valB] <;> omega
                · refine Pk.adv 10 (by kernel_rfl) ?_
                  refine Pk.fin (v' := AV.bool false) (by kernel_rfl) (by kernel_rfl) (by kernel_rfl) ?_
                  simp_all [valB] <;> omega
              · refine Pk.adv 19 (by kernel_rfl) ?_
                refine Pk.fin (v' := AV.bool false) (by kernel_rfl) (by kernel_rfl) (by kernel_rfl) ?_
                simp_all [valB] <;> omega
set_option maxHeartbeats 4000000 in
theorem l97 {E : Env} (h : Has E 97 F97) (h107 : Has E 107 F107) (h154 : Has E 154 F154) (k n : Int) (s : List Nat) (hs : s.length ≤ mx63) : FnC E 97 [.agg [.int .i64 k, .int .i64 n, .str s]] (.int .i64 (chk (valB k n s))) := by
  refine FnC.of h rfl (by kernel_rfl) (by kernel_rfl) ?_
  have hw := l107 h107 h154 k n s hs
  refine Pk.adv 9 (by kernel_rfl) ?_
  refine Pk.call0 (g := CX.c (AV.fn 107 [])) (args := [X3]) (k := 107) (caps := []) (as := [AV.agg [AV.int IntKind.i64 k, AV.int IntKind.i64 n, AV.str s]]) (vs := [AV.agg [AV.int IntKind.i64 k, AV.int IntKind.i64 n, AV.str s]]) (v := AV.bool (valB k n s)) (by kernel_rfl) (by kernel_rfl) (by kernel_rfl) (by kernel_rfl) (by kernel_rfl) (by kernel_rfl) (by kernel_rfl) (hw) ?_
  refine Pk.adv 2 (by kernel_rfl) ?_
  refine Pk.split p5 (!valB k n s) (by kernel_rfl) (fun h1 => ?_) (fun h1 => ?_)
  · refine Pk.adv 7 (by kernel_rfl) ?_
    refine Pk.fin (v' := AV.int IntKind.i64 10) (by kernel_rfl) (by kernel_rfl) (by kernel_rfl) ?_
    clear hw; simp_all [chk]
  · refine Pk.adv 7 (by kernel_rfl) ?_
    refine Pk.fin (v' := AV.int IntKind.i64 0) (by kernel_rfl) (by kernel_rfl) (by kernel_rfl) ?_
    clear hw; simp_all [chk]
theorem l116 {E : Env} (h : Has E 116 F116.pure) (s : List Nat) : FnC E 116 [.str s] (.agg [.int .i64 7, .int .i64 0, .str s]) := by
  refine FnC.of h rfl (by kernel_rfl) (by kernel_rfl) ?_
  refine Pk.adv 11 (by kernel_rfl) ?_
  refine Pk.fin (v' := AV.agg [AV.int IntKind.i64 7, AV.int IntKind.i64 0, AV.str s]) (by kernel_rfl) (by kernel_rfl) (by kernel_rfl) ?_
  rfl
end Go.EV

/- Patterns, as data. -/
namespace Go.EV
inductive It where
  | mk (w : Bool) (a : List Nat) (b : Bool) (li : Int) (h : Bool) (dk dn : Int) (ds : List Nat) (n : Bool) (sub : List It) (r : Int)
abbrev itv (w : Bool) (a : List Nat) (b : Bool) (li : Int) (h : Bool) (dk dn : Int) (ds : List Nat) (n : Bool) (sub : AV) (r : Int) : List AV :=
  [.bool w, .str a, .bool b, .int .i64 li, .bool h, .int .i64 dk, .int .i64 dn, .str ds, .bool n, sub, .int .i64 r]
mutual
def It.av : It → List AV
  | .mk w a b li h dk dn ds n sub r => itv w a b li h dk dn ds n (.lst (It.avs sub)) r
def It.avs : List It → List (List AV)
  | [] => []
  | x :: r => x.av :: It.avs r
end
theorem It.avs_map : ∀ l, It.avs l = l.map It.av
  | [] => rfl
  | x :: r => by rw [It.avs, It.avs_map r]; rfl
theorem It.at {l : List It} {i : Nat} {w : Bool} {a : List Nat} {b : Bool} {li : Int} {h : Bool} {dk dn : Int} {ds : List Nat} {n : Bool} {sub : List It} {r : Int} (e : l[i]? = some (.mk w a b li h dk dn ds n sub r)) :
    (It.avs l)[i]? = some (itv w a b li h dk dn ds n (.lst (It.avs sub)) r) := by rw [It.avs_map, List.getElem?_map, e]; rfl
theorem It.len (l : List It) : (It.avs l).length = l.length := by rw [It.avs_map, List.length_map]
theorem It.avs_head (l : List It) : headOk 11 (It.avs l) = true := by
  cases l with
  | nil => rfl
  | cons x r => cases x; rfl
/-- May an item be, but for what is within? -/
def oneB (w : Bool) (a : List Nat) (b : Bool) (li : Int) (h : Bool) (dk dn : Int) (ds : List Nat) (n : Bool) (m : Nat) (r : Int) : Bool :=
  if w = true then decide (a = []) && !b && decide (li = 0) && !h && (decide (dk = 0) && decide (dn = 0) && decide (ds = [])) && !n && decide (m = 0) && decide (r = 0)
  else if h = true ∧ n = true ∨ h = true ∧ r ≠ 0 ∨ n = true ∧ r ≠ 0 then false
  else if wordB a = false ∨ li < 0 ∨ 1000 < li ∨ r < -1 ∨ 100 < r ∨ n = false ∧ 0 < m then false
  else if h = true then valB dk dn ds else decide (dk = 0) && decide (dn = 0) && decide (ds = [])
def It.one : It → Bool
  | .mk w a b li h dk dn ds n sub r => oneB w a b li h dk dn ds n sub.length r
end Go.EV

/- Patterns: what is said of them. -/
namespace Go.EV
def It.like : It → It → Bool
  | .mk w a b _ _ _ _ _ _ _ _, .mk w' a' b' _ _ _ _ _ _ _ _ => decide (w = w') && decide (a = a') && decide (b = b')
mutual
/-- No text, no list is longer than such may be. -/
def It.sm : It → Prop
  | .mk _ a _ _ _ _ _ ds _ sub _ => a.length ≤ mx63 ∧ ds.length ≤ mx63 ∧ sub.length ≤ mx63 ∧ It.sms sub
def It.sms : List It → Prop
  | [] => True
  | x :: r => x.sm ∧ It.sms r
end
theorem It.sms_at : ∀ {l : List It} {i : Nat} {x : It}, It.sms l → l[i]? = some x → x.sm
  | [], i, x, _, h => by simp at h
  | y :: r, 0, x, h, e => by simp at e; subst e; exact h.1
  | y :: r, i + 1, x, h, e => It.sms_at h.2 (by simpa using e)
mutual
def It.cnt : It → Nat
  | .mk _ _ _ _ _ _ _ _ n sub _ => if n = true then It.cnts sub else 0
/-- How many items, those within the nested ones told. -/
def It.cnts : List It → Nat
  | [] => 0
  | x :: r => x.cnt + It.cnts r + 1
end
mutual
def It.dep : It → Nat
  | .mk _ _ _ _ _ _ _ _ n sub _ => if n = true then It.deps sub + 1 else 1
/-- How deep lists stand. -/
def It.deps : List It → Nat
  | [] => 1
  | x :: r => max x.dep (It.deps r)
end
open Classical in
/-- Each item may be, and no two are alike. -/
noncomputable def lsOk (l : List It) : Bool := decide (∀ (i : Nat) (x : It), l[i]? = some x → x.one = true ∧ ∀ (k : Nat) (y : It), k < i → l[k]? = some y → x.like y = false)
mutual
noncomputable def It.fin : It → Bool
  | .mk _ _ _ _ _ _ _ _ n sub _ => !n || (lsOk sub && It.fins sub)
noncomputable def It.fins : List It → Bool
  | [] => true
  | x :: r => x.fin && It.fins r
end
noncomputable def fineB (l : List It) : Bool := lsOk l && It.fins l
/-- Items, and what their texts have: as the machine adds it up. -/
def wgh : List It → Nat → Int → Int
  | [], _, n => n
  | .mk _ a _ _ _ _ _ ds _ sub _ :: r, d, n =>
    if n ≤ 200 then wgh r d (IntKind.i64.wrap (IntKind.i64.wrap (IntKind.i64.wrap (IntKind.i64.wrap (n + 1) + IntKind.i64.wrap ((Int.ofNat a.length).tdiv 50)) + IntKind.i64.wrap ((Int.ofNat ds.length).tdiv 50)) + (if 60 < d + 1 then 1000 else wgh sub (d + 1) 0))) else n
termination_by l => SizeOf.sizeOf l
theorem wgh_over {l : List It} {d : Nat} {n : Int} (h : 200 < n) : wgh l d n = n := by
  cases l with
  | nil => rw [wgh]
  | cons x r => obtain ⟨w, a, b, li, hh, dk, dn, ds, nn, sub, r'⟩ := x; rw [wgh, if_neg (by omega)]
end Go.EV

/- One item: both say the same of it. -/
namespace Go.EV
set_option maxRecDepth 100000
theorem l97w {E : Env} (h : Has E 97 F97) (h107 : Has E 107 F107) (h154 : Has E 154 F154) (s : List Nat) (hs : s.length ≤ mx63) : FnC E 97 [.agg [.int .i64 7, .int .i64 0, .str s]] (.int .i64 (chk (wordB s))) :=
  l97 h h107 h154 7 0 s hs
set_option maxHeartbeats 4000000 in
/-- The program's. -/
theorem l74 {E : Env} (h : Has E 74 F74.pure) (h97 : Has E 97 F97) (h107 : Has E 107 F107) (h116 : Has E 116 F116.pure) (h154 : Has E 154 F154) (w : Bool) (a : List Nat) (b : Bool) (li : Int) (hh : Bool) (dk dn : Int) (ds : List Nat) (n : Bool) (sub : List It) (r : Int) (ha : a.length ≤ mx63) (hds : ds.length ≤ mx63) :
    FnC E 74 [.agg (itv w a b li hh dk dn ds n (.lst (It.avs sub)) r)] (.bool (oneB w a b li hh dk dn ds n sub.length r)) := by
  rw [← It.len sub]
  generalize It.avs sub = L
  refine FnC.of h rfl (by kernel_rfl) (by kernel_rfl) ?_
  have hv := l97 h97 h107 h154 dk dn ds hds
  have hw := l97w h97 h107 h154 a ha
  have hm := l116 h116 a
  clear h97 h107 h116 h154 ha hds
  refine Pk.adv 11 (by kernel_rfl) ?_
  refine Pk.split p7 (w) (by kernel_rfl) (fun h1 => ?_) (fun h1 => ?_)
  · refine Pk.adv 7 (by kernel_rfl) ?_
    refine Pk.split p11 (decide (a = [])) (by kernel_rfl) (fun h2 => ?_) (fun h2 => ?_)
    · refine Pk.adv 5 (by kernel_rfl) ?_
      refine Pk.split p16 (!b) (by kernel_rfl) (fun h3 => ?_) (fun h3 => ?_)
      · refine Pk.adv 5 (by kernel_rfl) ?_
        refine Pk.split p21 (decide (li = 0)) (by kernel_rfl) (fun h4 => ?_) (fun h4 => ?_)
        · refine Pk.adv 5 (by kernel_rfl) ?_
          refine Pk.split p26 (!hh) (by kernel_rfl) (fun h5 => ?_) (fun h5 => ?_)
          · refine Pk.adv 6 (by kernel_rfl) ?_
            refine Pk.split p32 ((fun r => decide (dk = 0) && r) ((fun r => decide (dn = 0) && r) ((fun r => decide (ds = []) && r) true))) (by kernel_rfl) (fun h6 => ?_) (fun h6 => ?_)
            · refine Pk.adv 5 (by kernel_rfl) ?_
              refine Pk.split p37 (!n) (by kernel_rfl) (fun h7 => ?_) (fun h7 => ?_)
              · refine Pk.adv 6 (by kernel_rfl) ?_
                refine Pk.split p43 (decide ((↑(List.length L) : Int) = 0)) (by kernel_rfl) (fun h8 => ?_) (fun h8 => ?_)
                · refine Pk.adv 8 (by kernel_rfl) ?_
                  refine Pk.fin (v' := AV.bool (decide (r = 0))) (by kernel_rfl) (by kernel_rfl) (by kernel_rfl) ?_
                  (clear hv hw hm; simp_all [oneB, chk_zero] <;> first | omega | grind)
                · refine Pk.adv 8 (by kernel_rfl) ?_
                  refine Pk.fin (v' := AV.bool false) (by kernel_rfl) (by kernel_rfl) (by kernel_rfl) ?_
                  (clear hv hw hm; simp_all [oneB, chk_zero] <;> first | omega | grind)
              · refine Pk.adv 14 (by kernel_rfl) ?_
                refine Pk.fin (v' := AV.bool false) (by kernel_rfl) (by kernel_rfl) (by kernel_rfl) ?_
                (clear hv hw hm; simp_all [oneB, chk_zero] <;> first | omega | grind)
            · refine Pk.adv 19 (by kernel_rfl) ?_
              refine Pk.fin (v' := AV.bool false) (by kernel_rfl) (by kernel_rfl) (by kernel_rfl) ?_
              (clear hv hw hm; simp_all [oneB, chk_zero] <;> first | omega | grind)
          · refine Pk.adv 25 (by kernel_rfl) ?_
            refine Pk.fin (v' := AV.bool false) (by kernel_rfl) (by kernel_rfl) (by kernel_rfl) ?_
            (clear hv hw hm; simp_all [oneB, chk_zero] <;> first | omega | grind)
        · refine Pk.adv 30 (by kernel_rfl) ?_
          refine Pk.fin (v' := AV.bool false) (by kernel_rfl) (by kernel_rfl) (by kernel_rfl) ?_
          (clear hv hw hm; simp_all [oneB, chk_zero] <;> first | omega | grind)
      · refine Pk.adv 35 (by kernel_rfl) ?_
        refine Pk.fin (v' := AV.bool false) (by kernel_rfl) (by kernel_rfl) (by kernel_rfl) ?_
        (clear hv hw hm; simp_all [oneB, chk_zero] <;> first | omega | grind)
    · refine Pk.adv 40 (by kernel_rfl) ?_
      refine Pk.fin (v' := AV.bool false) (by kernel_rfl) (by kernel_rfl) (by kernel_rfl) ?_
      (clear hv hw hm; simp_all [oneB, chk_zero] <;> first | omega | grind)
  · refine Pk.adv 41 (by kernel_rfl) ?_
    refine Pk.split p61 (hh) (by kernel_rfl) (fun h2 => ?_) (fun h2 => ?_)
    · refine Pk.adv 31 (by kernel_rfl) ?_
      refine Pk.split p61 (n) (by kernel_rfl) (fun h3 => ?_) (fun h3 => ?_)
      · refine Pk.adv 31 (by kernel_rfl) ?_
        refine Pk.split p61 (!decide (r = 0)) (by kernel_rfl) (fun h4 => ?_) (fun h4 => ?_)
        · refine Pk.adv 41 (by kernel_rfl) ?_
          refine Pk.fin (v' := AV.bool false) (by kernel_rfl) (by kernel_rfl) (by kernel_rfl) ?_
          (clear hv hw hm; simp_all [oneB, chk_zero] <;> first | omega | grind)
        · refine Pk.adv 37 (by kernel_rfl) ?_
          refine Pk.fin (v' := AV.bool false) (by kernel_rfl) (by kernel_rfl) (by kernel_rfl) ?_
          (clear hv hw hm; simp_all [oneB, chk_zero] <;> first | omega | grind)
      · refine Pk.adv 27 (by kernel_rfl) ?_
        refine Pk.split p61 (!decide (r = 0)) (by kernel_rfl) (fun h4 => ?_) (fun h4 => ?_)
        · refine Pk.adv 41 (by kernel_rfl) ?_
          refine Pk.fin (v' := AV.bool false) (by kernel_rfl) (by kernel_rfl) (by kernel_rfl) ?_
          (clear hv hw hm; simp_all [oneB, chk_zero] <;> first | omega | grind)
        · refine Pk.adv 32 (by kernel_rfl) ?_
          refine Pk.call0 (g := CX.c (AV.fn 116 [])) (args := [X69]) (k := 116) (caps := []) (as := [AV.str a]) (vs := [AV.str a]) (v := AV.agg [AV.int IntKind.i64 7, AV.int IntKind.i64 0, AV.str a]) (by kernel_rfl) (by kernel_rfl) (by kernel_rfl) (by kernel_rfl) (by kernel_rfl) (by kernel_rfl) (by kernel_rfl) (hm) ?_
          refine Pk.call0 (g := CX.c (AV.fn 97 [])) (args := [X70]) (k := 97) (caps := []) (as := [AV.agg [AV.int IntKind.i64 7, AV.int IntKind.i64 0, AV.str a]]) (vs := [AV.agg [AV.int IntKind.i64 7, AV.int IntKind.i64 0, AV.str a]]) (v := AV.int IntKind.i64 (chk (wordB a))) (by kernel_rfl) (by kernel_rfl) (by kernel_rfl) (by kernel_rfl) (by kernel_rfl) (by kernel_rfl) (by kernel_rfl) (hw) ?_
          refine Pk.adv 3 (by kernel_rfl) ?_
          refine Pk.split p65 (!decide (chk (wordB a) = 0)) (by kernel_rfl) (fun h5 => ?_) (fun h5 => ?_)
          · refine Pk.adv 10 (by kernel_rfl) ?_
            refine Pk.fin (v' := AV.bool false) (by kernel_rfl) (by kernel_rfl) (by kernel_rfl) ?_
            (clear hv hw hm; simp_all [oneB, chk_zero] <;> first | omega | grind)
          · refine Pk.adv 8 (by kernel_rfl) ?_
            refine Pk.split p65 (decide (li < 0)) (by kernel_rfl) (fun h6 => ?_) (fun h6 => ?_)
            · refine Pk.adv 10 (by kernel_rfl) ?_
              refine Pk.fin (v' := AV.bool false) (by kernel_rfl) (by kernel_rfl) (by kernel_rfl) ?_
              (clear hv hw hm; simp_all [oneB, chk_zero] <;> first | omega | grind)
            · refine Pk.adv 8 (by kernel_rfl) ?_
              refine Pk.split p65 (decide (1000 < li)) (by kernel_rfl) (fun h7 => ?_) (fun h7 => ?_)
              · refine Pk.adv 10 (by kernel_rfl) ?_
                refine Pk.fin (v' := AV.bool false) (by kernel_rfl) (by kernel_rfl) (by kernel_rfl) ?_
                (clear hv hw hm; simp_all [oneB, chk_zero] <;> first | omega | grind)
              · refine Pk.adv 8 (by kernel_rfl) ?_
                refine Pk.split p65 (decide (r < -1)) (by kernel_rfl) (fun h8 => ?_) (fun h8 => ?_)
                · refine Pk.adv 10 (by kernel_rfl) ?_
                  refine Pk.fin (v' := AV.bool false) (by kernel_rfl) (by kernel_rfl) (by kernel_rfl) ?_
                  (clear hv hw hm; simp_all [oneB, chk_zero] <;> first | omega | grind)
                · refine Pk.adv 8 (by kernel_rfl) ?_
                  refine Pk.split p65 (decide (100 < r)) (by kernel_rfl) (fun h9 => ?_) (fun h9 => ?_)
                  · refine Pk.adv 10 (by kernel_rfl) ?_
                    refine Pk.fin (v' := AV.bool false) (by kernel_rfl) (by kernel_rfl) (by kernel_rfl) ?_
                    (clear hv hw hm; simp_all [oneB, chk_zero] <;> first | omega | grind)
                  · refine Pk.adv 6 (by kernel_rfl) ?_
                    refine Pk.split p88 (!n) (by kernel_rfl) (fun h10 => ?_) (fun h10 => ?_)
                    · refine Pk.adv 7 (by kernel_rfl) ?_
                      refine Pk.split p65 (decide (0 < (↑(List.length L) : Int))) (by kernel_rfl) (fun h11 => ?_) (fun h11 => ?_)
                      · refine Pk.adv 8 (by kernel_rfl) ?_
                        refine Pk.fin (v' := AV.bool false) (by kernel_rfl) (by kernel_rfl) (by kernel_rfl) ?_
                        (clear hv hw hm; simp_all [oneB, chk_zero] <;> first | omega | grind)
                      · refine Pk.adv 7 (by kernel_rfl) ?_
                        refine Pk.know p94 (hh) true (by kernel_rfl) h2 ?_
                        refine Pk.adv 5 (by kernel_rfl) ?_
                        refine Pk.call0 (g := CX.c (AV.fn 97 [])) (args := [X98]) (k := 97) (caps := []) (as := [AV.agg [AV.int IntKind.i64 dk, AV.int IntKind.i64 dn, AV.str ds]]) (vs := [AV.agg [AV.int IntKind.i64 dk, AV.int IntKind.i64 dn, AV.str ds]]) (v := AV.int IntKind.i64 (chk (valB dk dn ds))) (by kernel_rfl) (by kernel_rfl) (by kernel_rfl) (by kernel_rfl) (by kernel_rfl) (by kernel_rfl) (by kernel_rfl) (hv) ?_
                        refine Pk.adv 6 (by kernel_rfl) ?_
                        refine Pk.fin (v' := AV.bool (decide (chk (valB dk dn ds) = 0))) (by kernel_rfl) (by kernel_rfl) (by kernel_rfl) ?_
                        (clear hv hw hm; simp_all [oneB, chk_zero] <;> first | omega | grind)
                    · refine Pk.adv 14 (by kernel_rfl) ?_
                      refine Pk.know p94 (hh) true (by kernel_rfl) h2 ?_
                      refine Pk.adv 5 (by kernel_rfl) ?_
                      refine Pk.call0 (g := CX.c (AV.fn 97 [])) (args := [X98]) (k := 97) (caps := []) (as := [AV.agg [AV.int IntKind.i64 dk, AV.int IntKind.i64 dn, AV.str ds]]) (vs := [AV.agg [AV.int IntKind.i64 dk, AV.int IntKind.i64 dn, AV.str ds]]) (v := AV.int IntKind.i64 (chk (valB dk dn ds))) (by kernel_rfl) (by kernel_rfl) (by kernel_rfl) (by kernel_rfl) (by kernel_rfl) (by kernel_rfl) (by kernel_rfl) (hv) ?_
                      refine Pk.adv 6 (by kernel_rfl) ?_
                      refine Pk.fin (v' := AV.bool (decide (chk (valB dk dn ds) = 0))) (by kernel_rfl) (by kernel_rfl) (by kernel_rfl) ?_
                      (clear hv hw hm; simp_all [oneB, chk_zero] <;> first | omega | grind)
    · refine Pk.adv 27 (by kernel_rfl) ?_
      refine Pk.split p61 (n) (by kernel_rfl) (fun h3 => ?_) (fun h3 => ?_)
      · refine Pk.adv 31 (by kernel_rfl) ?_
        refine Pk.split p61 (!decide (r = 0)) (by kernel_rfl) (fun h4 => ?_) (fun h4 => ?_)
        · refine Pk.adv 41 (by kernel_rfl) ?_
          refine Pk.fin (v' := AV.bool false) (by kernel_rfl) (by kernel_rfl) (by kernel_rfl) ?_
          (clear hv hw hm; simp_all [oneB, chk_zero] <;> first | omega | grind)
        · refine Pk.adv 32 (by kernel_rfl) ?_
          refine Pk.call0 (g := CX.c (AV.fn 116 [])) (args := [X69]) (k := 116) (caps := []) (as := [AV.str a]) (vs := [AV.str a]) (v := AV.agg [AV.int IntKind.i64 7, AV.int IntKind.i64 0, AV.str a]) (by kernel_rfl) (by kernel_rfl) (by kernel_rfl) (by kernel_rfl) (by kernel_rfl) (by kernel_rfl) (by kernel_rfl) (hm) ?_
          refine Pk.call0 (g := CX.c (AV.fn 97 [])) (args := [X70]) (k := 97) (caps := []) (as := [AV.agg [AV.int IntKind.i64 7, AV.int IntKind.i64 0, AV.str a]]) (vs := [AV.agg [AV.int IntKind.i64 7, AV.int IntKind.i64 0, AV.str a]]) (v := AV.int IntKind.i64 (chk (wordB a))) (by kernel_rfl) (by kernel_rfl) (by kernel_rfl) (by kernel_rfl) (by kernel_rfl) (by kernel_rfl) (by kernel_rfl) (hw) ?_
          refine Pk.adv 3 (by kernel_rfl) ?_
          refine Pk.split p65 (!decide (chk (wordB a) = 0)) (by kernel_rfl) (fun h5 => ?_) (fun h5 => ?_)
          · refine Pk.adv 10 (by kernel_rfl) ?_
            refine Pk.fin (v' := AV.bool false) (by kernel_rfl) (by kernel_rfl) (by kernel_rfl) ?_
            (clear hv hw hm; simp_all [oneB, chk_zero] <;> first | omega | grind)
          · refine Pk.adv 8 (by kernel_rfl) ?_
            refine Pk.split p65 (decide (li < 0)) (by kernel_rfl) (fun h6 => ?_) (fun h6 => ?_)
            · refine Pk.adv 10 (by kernel_rfl) ?_
              refine Pk.fin (v' := AV.bool false) (by kernel_rfl) (by kernel_rfl) (by kernel_rfl) ?_
              (clear hv hw hm; simp_all [oneB, chk_zero] <;> first | omega | grind)
            · refine Pk.adv 8 (by kernel_rfl) ?_
              refine Pk.split p65 (decide (1000 < li)) (by kernel_rfl) (fun h7 => ?_) (fun h7 => ?_)
              · refine Pk.adv 10 (by kernel_rfl) ?_
                refine Pk.fin (v' := AV.bool false) (by kernel_rfl) (by kernel_rfl) (by kernel_rfl) ?_
                (clear hv hw hm; simp_all [oneB, chk_zero] <;> first | omega | grind)
              · refine Pk.adv 8 (by kernel_rfl) ?_
                refine Pk.split p65 (decide (r < -1)) (by kernel_rfl) (fun h8 => ?_) (fun h8 => ?_)
                · refine Pk.adv 10 (by kernel_rfl) ?_
                  refine Pk.fin (v' := AV.bool false) (by kernel_rfl) (by kernel_rfl) (by kernel_rfl) ?_
                  (clear hv hw hm; simp_all [oneB, chk_zero] <;> first | omega | grind)
                · refine Pk.adv 8 (by kernel_rfl) ?_
                  refine Pk.split p65 (decide (100 < r)) (by kernel_rfl) (fun h9 => ?_) (fun h9 => ?_)
                  · refine Pk.adv 10 (by kernel_rfl) ?_
                    refine Pk.fin (v' := AV.bool false) (by kernel_rfl) (by kernel_rfl) (by kernel_rfl) ?_
                    (clear hv hw hm; simp_all [oneB, chk_zero] <;> first | omega | grind)
                  · refine Pk.adv 6 (by kernel_rfl) ?_
                    refine Pk.split p88 (!n) (by kernel_rfl) (fun h10 => ?_) (fun h10 => ?_)
                    · refine Pk.adv 7 (by kernel_rfl) ?_
                      refine Pk.split p65 (decide (0 < (↑(List.length L) : Int))) (by kernel_rfl) (fun h11 => ?_) (fun h11 => ?_)
                      · refine Pk.adv 8 (by kernel_rfl) ?_
                        refine Pk.fin (v' := AV.bool false) (by kernel_rfl) (by kernel_rfl) (by kernel_rfl) ?_
                        (clear hv hw hm; simp_all [oneB, chk_zero] <;> first | omega | grind)
                      · refine Pk.adv 7 (by kernel_rfl) ?_
                        refine Pk.know p94 (hh) false (by kernel_rfl) h2 ?_
                        refine Pk.adv 12 (by kernel_rfl) ?_
                        refine Pk.fin (v' := AV.bool ((fun r => decide (dk = 0) && r) ((fun r => decide (dn = 0) && r) ((fun r => decide (ds = []) && r) true)))) (by kernel_rfl) (by kernel_rfl) (by kernel_rfl) ?_
                        (clear hv hw hm; simp_all [oneB, chk_zero] <;> first | omega | grind)
                    · refine Pk.adv 14 (by kernel_rfl) ?_
                      refine Pk.know p94 (hh) false (by kernel_rfl) h2 ?_
                      refine Pk.adv 12 (by kernel_rfl) ?_
                      refine Pk.fin (v' := AV.bool ((fun r => decide (dk = 0) && r) ((fun r => decide (dn = 0) && r) ((fun r => decide (ds = []) && r) true)))) (by kernel_rfl) (by kernel_rfl) (by kernel_rfl) ?_
                      (clear hv hw hm; simp_all [oneB, chk_zero] <;> first | omega | grind)
      · refine Pk.adv 27 (by kernel_rfl) ?_
        refine Pk.split p61 (!decide (r = 0)) (by kernel_rfl) (fun h4 => ?_) (fun h4 => ?_)
        · refine Pk.adv 36 (by kernel_rfl) ?_
          refine Pk.call0 (g := CX.c (AV.fn 116 [])) (args := [X69]) (k := 116) (caps := []) (as := [AV.str a]) (vs := [AV.str a]) (v := AV.agg [AV.int IntKind.i64 7, AV.int IntKind.i64 0, AV.str a]) (by kernel_rfl) (by kernel_rfl) (by kernel_rfl) (by kernel_rfl) (by kernel_rfl) (by kernel_rfl) (by kernel_rfl) (hm) ?_
          refine Pk.call0 (g := CX.c (AV.fn 97 [])) (args := [X70]) (k := 97) (caps := []) (as := [AV.agg [AV.int IntKind.i64 7, AV.int IntKind.i64 0, AV.str a]]) (vs := [AV.agg [AV.int IntKind.i64 7, AV.int IntKind.i64 0, AV.str a]]) (v := AV.int IntKind.i64 (chk (wordB a))) (by kernel_rfl) (by kernel_rfl) (by kernel_rfl) (by kernel_rfl) (by kernel_rfl) (by kernel_rfl) (by kernel_rfl) (hw) ?_
          refine Pk.adv 3 (by kernel_rfl) ?_
          refine Pk.split p65 (!decide (chk (wordB a) = 0)) (by kernel_rfl) (fun h5 => ?_) (fun h5 => ?_)
          · refine Pk.adv 10 (by kernel_rfl) ?_
            refine Pk.fin (v' := AV.bool false) (by kernel_rfl) (by kernel_rfl) (by kernel_rfl) ?_
            (clear hv hw hm; simp_all [oneB, chk_zero] <;> first | omega | grind)
          · refine Pk.adv 8 (by kernel_rfl) ?_
            refine Pk.split p65 (decide (li < 0)) (by kernel_rfl) (fun h6 => ?_) (fun h6 => ?_)
            · refine Pk.adv 10 (by kernel_rfl) ?_
              refine Pk.fin (v' := AV.bool false) (by kernel_rfl) (by kernel_rfl) (by kernel_rfl) ?_
              (clear hv hw hm; simp_all [oneB, chk_zero] <;> first | omega | grind)
            · refine Pk.adv 8 (by kernel_rfl) ?_
              refine Pk.split p65 (decide (1000 < li)) (by kernel_rfl) (fun h7 => ?_) (fun h7 => ?_)
              · refine Pk.adv 10 (by kernel_rfl) ?_
                refine Pk.fin (v' := AV.bool false) (by kernel_rfl) (by kernel_rfl) (by kernel_rfl) ?_
                (clear hv hw hm; simp_all [oneB, chk_zero] <;> first | omega | grind)
              · refine Pk.adv 8 (by kernel_rfl) ?_
                refine Pk.split p65 (decide (r < -1)) (by kernel_rfl) (fun h8 => ?_) (fun h8 => ?_)
                · refine Pk.adv 10 (by kernel_rfl) ?_
                  refine Pk.fin (v' := AV.bool false) (by kernel_rfl) (by kernel_rfl) (by kernel_rfl) ?_
                  (clear hv hw hm; simp_all [oneB, chk_zero] <;> first | omega | grind)
                · refine Pk.adv 8 (by kernel_rfl) ?_
                  refine Pk.split p65 (decide (100 < r)) (by kernel_rfl) (fun h9 => ?_) (fun h9 => ?_)
                  · refine Pk.adv 10 (by kernel_rfl) ?_
                    refine Pk.fin (v' := AV.bool false) (by kernel_rfl) (by kernel_rfl) (by kernel_rfl) ?_
                    (clear hv hw hm; simp_all [oneB, chk_zero] <;> first | omega | grind)
                  · refine Pk.adv 6 (by kernel_rfl) ?_
                    refine Pk.split p88 (!n) (by kernel_rfl) (fun h10 => ?_) (fun h10 => ?_)
                    · refine Pk.adv 7 (by kernel_rfl) ?_
                      refine Pk.split p65 (decide (0 < (↑(List.length L) : Int))) (by kernel_rfl) (fun h11 => ?_) (fun h11 => ?_)
                      · refine Pk.adv 8 (by kernel_rfl) ?_
                        refine Pk.fin (v' := AV.bool false) (by kernel_rfl) (by kernel_rfl) (by kernel_rfl) ?_
                        (clear hv hw hm; simp_all [oneB, chk_zero] <;> first | omega | grind)
                      · refine Pk.adv 7 (by kernel_rfl) ?_
                        refine Pk.know p94 (hh) false (by kernel_rfl) h2 ?_
                        refine Pk.adv 12 (by kernel_rfl) ?_
                        refine Pk.fin (v' := AV.bool ((fun r => decide (dk = 0) && r) ((fun r => decide (dn = 0) && r) ((fun r => decide (ds = []) && r) true)))) (by kernel_rfl) (by kernel_rfl) (by kernel_rfl) ?_
                        (clear hv hw hm; simp_all [oneB, chk_zero] <;> first | omega | grind)
                    · refine Pk.adv 14 (by kernel_rfl) ?_
                      refine Pk.know p94 (hh) false (by kernel_rfl) h2 ?_
                      refine Pk.adv 12 (by kernel_rfl) ?_
                      refine Pk.fin (v' := AV.bool ((fun r => decide (dk = 0) && r) ((fun r => decide (dn = 0) && r) ((fun r => decide (ds = []) && r) true)))) (by kernel_rfl) (by kernel_rfl) (by kernel_rfl) ?_
                      (clear hv hw hm; simp_all [oneB, chk_zero] <;> first | omega | grind)
        · refine Pk.adv 32 (by kernel_rfl) ?_
          refine Pk.call0 (g := CX.c (AV.fn 116 [])) (args := [X69]) (k := 116) (caps := []) (as := [AV.str a]) (vs := [AV.str a]) (v := AV.agg [AV.int IntKind.i64 7, AV.int IntKind.i64 0, AV.str a]) (by kernel_rfl) (by kernel_rfl) (by kernel_rfl) (by kernel_rfl) (by kernel_rfl) (by kernel_rfl) (by kernel_rfl) (hm) ?_
          refine Pk.call0 (g := CX.c (AV.fn 97 [])) (args := [X70]) (k := 97) (caps := []) (as := [AV.agg [AV.int IntKind.i64 7, AV.int IntKind.i64 0, AV.str a]]) (vs := [AV.agg [AV.int IntKind.i64 7, AV.int IntKind.i64 0, AV.str a]]) (v := AV.int IntKind.i64 (chk (wordB a))) (by kernel_rfl) (by kernel_rfl) (by kernel_rfl) (by kernel_rfl) (by kernel_rfl) (by kernel_rfl) (by kernel_rfl) (hw) ?_
          refine Pk.adv 3 (by kernel_rfl) ?_
          refine Pk.split p65 (!decide (chk (wordB a) = 0)) (by kernel_rfl) (fun h5 => ?_) (fun h5 => ?_)
          · refine Pk.adv 10 (by kernel_rfl) ?_
            refine Pk.fin (v' := AV.bool false) (by kernel_rfl) (by kernel_rfl) (by kernel_rfl) ?_
            (clear hv hw hm; simp_all [oneB, chk_zero] <;> first | omega | grind)
          · refine Pk.adv 8 (by kernel_rfl) ?_
            refine Pk.split p65 (decide (li < 0)) (by kernel_rfl) (fun h6 => ?_) (fun h6 => ?_)
            · refine Pk.adv 10 (by kernel_rfl) ?_
              refine Pk.fin (v' := AV.bool false) (by kernel_rfl) (by kernel_rfl) (by kernel_rfl) ?_
              (clear hv hw hm; simp_all [oneB, chk_zero] <;> first | omega | grind)
            · refine Pk.adv 8 (by kernel_rfl) ?_
              refine Pk.split p65 (decide (1000 < li)) (by kernel_rfl) (fun h7 => ?_) (fun h7 => ?_)
              · refine Pk.adv 10 (by kernel_rfl) ?_
                refine Pk.fin (v' := AV.bool false) (by kernel_rfl) (by kernel_rfl) (by kernel_rfl) ?_
                (clear hv hw hm; simp_all [oneB, chk_zero] <;> first | omega | grind)
              · refine Pk.adv 8 (by kernel_rfl) ?_
                refine Pk.split p65 (decide (r < -1)) (by kernel_rfl) (fun h8 => ?_) (fun h8 => ?_)
                · refine Pk.adv 10 (by kernel_rfl) ?_
                  refine Pk.fin (v' := AV.bool false) (by kernel_rfl) (by kernel_rfl) (by kernel_rfl) ?_
                  (clear hv hw hm; simp_all [oneB, chk_zero] <;> first | omega | grind)
                · refine Pk.adv 8 (by kernel_rfl) ?_
                  refine Pk.split p65 (decide (100 < r)) (by kernel_rfl) (fun h9 => ?_) (fun h9 => ?_)
                  · refine Pk.adv 10 (by kernel_rfl) ?_
                    refine Pk.fin (v' := AV.bool false) (by kernel_rfl) (by kernel_rfl) (by kernel_rfl) ?_
                    (clear hv hw hm; simp_all [oneB, chk_zero] <;> first | omega | grind)
                  · refine Pk.adv 6 (by kernel_rfl) ?_
                    refine Pk.split p88 (!n) (by kernel_rfl) (fun h10 => ?_) (fun h10 => ?_)
                    · refine Pk.adv 7 (by kernel_rfl) ?_
                      refine Pk.split p65 (decide (0 < (↑(List.length L) : Int))) (by kernel_rfl) (fun h11 => ?_) (fun h11 => ?_)
                      · refine Pk.adv 8 (by kernel_rfl) ?_
                        refine Pk.fin (v' := AV.bool false) (by kernel_rfl) (by kernel_rfl) (by kernel_rfl) ?_
                        (clear hv hw hm; simp_all [oneB, chk_zero] <;> first | omega | grind)
                      · refine Pk.adv 7 (by kernel_rfl) ?_
                        refine Pk.know p94 (hh) false (by kernel_rfl) h2 ?_
                        refine Pk.adv 12 (by kernel_rfl) ?_
                        refine Pk.fin (v' := AV.bool ((fun r => decide (dk = 0) && r) ((fun r => decide (dn = 0) && r) ((fun r => decide (ds = []) && r) true)))) (by kernel_rfl) (by kernel_rfl) (by kernel_rfl) ?_
                        (clear hv hw hm; simp_all [oneB, chk_zero] <;> first | omega | grind)
                    · refine Pk.adv 14 (by kernel_rfl) ?_
                      refine Pk.know p94 (hh) false (by kernel_rfl) h2 ?_
                      refine Pk.adv 12 (by kernel_rfl) ?_
                      refine Pk.fin (v' := AV.bool ((fun r => decide (dk = 0) && r) ((fun r => decide (dn = 0) && r) ((fun r => decide (ds = []) && r) true)))) (by kernel_rfl) (by kernel_rfl) (by kernel_rfl) ?_
                      (clear hv hw hm; simp_all [oneB, chk_zero] <;> first | omega | grind)
set_option maxHeartbeats 4000000 in
/-- The document's. -/
theorem l84 {E : Env} (h : Has E 84 F84.pure) (h121 : Has E 121 F121.pure) (h122 : Has E 122 F122.pure) (h159 : Has E 159 F159.pure) (h160 : Has E 160 F160.pure) (w : Bool) (a : List Nat) (b : Bool) (li : Int) (hh : Bool) (dk dn : Int) (ds : List Nat) (n : Bool) (sub : List It) (r : Int) :
    FnC E 84 [.agg (itv w a b li hh dk dn ds n (.lst (It.avs sub)) r)] (.bool (oneB w a b li hh dk dn ds n sub.length r)) := by
  rw [← It.len sub]
  generalize It.avs sub = L
  refine FnC.of h rfl (by kernel_rfl) (by kernel_rfl) ?_
  have hv := l122 h122 h121 h159 h160 dk dn ds
  have hw := l121 h121 h159 h160 a
  clear h121 h122 h159 h160
  refine Pk.adv 19 (by kernel_rfl) ?_
  refine Pk.split p9 (w) (by kernel_rfl) (fun h1 => ?_) (fun h1 => ?_)
  · refine Pk.adv 7 (by kernel_rfl) ?_
    refine Pk.split p13 (decide (a = [])) (by kernel_rfl) (fun h2 => ?_) (fun h2 => ?_)
    · refine Pk.adv 5 (by kernel_rfl) ?_
      refine Pk.split p18 (!b) (by kernel_rfl) (fun h3 => ?_) (fun h3 => ?_)
      · refine Pk.adv 5 (by kernel_rfl) ?_
        refine Pk.split p23 (decide (li = 0)) (by kernel_rfl) (fun h4 => ?_) (fun h4 => ?_)
        · refine Pk.adv 5 (by kernel_rfl) ?_
          refine Pk.split p28 (!hh) (by kernel_rfl) (fun h5 => ?_) (fun h5 => ?_)
          · refine Pk.adv 3 (by kernel_rfl) ?_
            refine Pk.split p31 ((fun r => decide (dk = 0) && r) ((fun r => decide (dn = 0) && r) ((fun r => decide (ds = []) && r) true))) (by kernel_rfl) (fun h6 => ?_) (fun h6 => ?_)
            · refine Pk.adv 5 (by kernel_rfl) ?_
              refine Pk.split p36 (!n) (by kernel_rfl) (fun h7 => ?_) (fun h7 => ?_)
              · refine Pk.adv 6 (by kernel_rfl) ?_
                refine Pk.split p42 (decide ((↑(List.length L) : Int) = 0)) (by kernel_rfl) (fun h8 => ?_) (fun h8 => ?_)
                · refine Pk.adv 8 (by kernel_rfl) ?_
                  refine Pk.fin (v' := AV.bool (decide (r = 0))) (by kernel_rfl) (by kernel_rfl) (by kernel_rfl) ?_
                  (clear hv hw; simp_all [oneB] <;> first | omega | grind)
                · refine Pk.adv 8 (by kernel_rfl) ?_
                  refine Pk.fin (v' := AV.bool false) (by kernel_rfl) (by kernel_rfl) (by kernel_rfl) ?_
                  (clear hv hw; simp_all [oneB] <;> first | omega | grind)
              · refine Pk.adv 14 (by kernel_rfl) ?_
                refine Pk.fin (v' := AV.bool false) (by kernel_rfl) (by kernel_rfl) (by kernel_rfl) ?_
                (clear hv hw; simp_all [oneB] <;> first | omega | grind)
            · refine Pk.adv 19 (by kernel_rfl) ?_
              refine Pk.fin (v' := AV.bool false) (by kernel_rfl) (by kernel_rfl) (by kernel_rfl) ?_
              (clear hv hw; simp_all [oneB] <;> first | omega | grind)
          · refine Pk.adv 22 (by kernel_rfl) ?_
            refine Pk.fin (v' := AV.bool false) (by kernel_rfl) (by kernel_rfl) (by kernel_rfl) ?_
            (clear hv hw; simp_all [oneB] <;> first | omega | grind)
        · refine Pk.adv 27 (by kernel_rfl) ?_
          refine Pk.fin (v' := AV.bool false) (by kernel_rfl) (by kernel_rfl) (by kernel_rfl) ?_
          (clear hv hw; simp_all [oneB] <;> first | omega | grind)
      · refine Pk.adv 32 (by kernel_rfl) ?_
        refine Pk.fin (v' := AV.bool false) (by kernel_rfl) (by kernel_rfl) (by kernel_rfl) ?_
        (clear hv hw; simp_all [oneB] <;> first | omega | grind)
    · refine Pk.adv 37 (by kernel_rfl) ?_
      refine Pk.fin (v' := AV.bool false) (by kernel_rfl) (by kernel_rfl) (by kernel_rfl) ?_
      (clear hv hw; simp_all [oneB] <;> first | omega | grind)
  · refine Pk.adv 8 (by kernel_rfl) ?_
    refine Pk.split p49 (hh) (by kernel_rfl) (fun h2 => ?_) (fun h2 => ?_)
    · refine Pk.adv 4 (by kernel_rfl) ?_
      refine Pk.split p53 (n) (by kernel_rfl) (fun h3 => ?_) (fun h3 => ?_)
      · refine Pk.adv 25 (by kernel_rfl) ?_
        refine Pk.fin (v' := AV.bool false) (by kernel_rfl) (by kernel_rfl) (by kernel_rfl) ?_
        (clear hv hw; simp_all [oneB] <;> first | omega | grind)
      · refine Pk.adv 3 (by kernel_rfl) ?_
        refine Pk.know p56 (hh) true (by kernel_rfl) h2 ?_
        refine Pk.adv 6 (by kernel_rfl) ?_
        refine Pk.split p62 (!decide (r = 0)) (by kernel_rfl) (fun h4 => ?_) (fun h4 => ?_)
        · refine Pk.adv 16 (by kernel_rfl) ?_
          refine Pk.fin (v' := AV.bool false) (by kernel_rfl) (by kernel_rfl) (by kernel_rfl) ?_
          (clear hv hw; simp_all [oneB] <;> first | omega | grind)
        · refine Pk.adv 3 (by kernel_rfl) ?_
          refine Pk.know p65 (n) false (by kernel_rfl) h3 ?_
          refine Pk.adv 13 (by kernel_rfl) ?_
          refine Pk.call0 (g := CX.c (AV.fn 121 [])) (args := [X72]) (k := 121) (caps := []) (as := [AV.str a]) (vs := [AV.str a]) (v := AV.bool (wordB a)) (by kernel_rfl) (by kernel_rfl) (by kernel_rfl) (by kernel_rfl) (by kernel_rfl) (by kernel_rfl) (by kernel_rfl) (hw) ?_
          refine Pk.adv 2 (by kernel_rfl) ?_
          refine Pk.split p75 (!wordB a) (by kernel_rfl) (fun h5 => ?_) (fun h5 => ?_)
          · refine Pk.adv 38 (by kernel_rfl) ?_
            refine Pk.fin (v' := AV.bool false) (by kernel_rfl) (by kernel_rfl) (by kernel_rfl) ?_
            (clear hv hw; simp_all [oneB] <;> first | omega | grind)
          · refine Pk.adv 5 (by kernel_rfl) ?_
            refine Pk.split p80 (decide (li < 0)) (by kernel_rfl) (fun h6 => ?_) (fun h6 => ?_)
            · refine Pk.adv 33 (by kernel_rfl) ?_
              refine Pk.fin (v' := AV.bool false) (by kernel_rfl) (by kernel_rfl) (by kernel_rfl) ?_
              (clear hv hw; simp_all [oneB] <;> first | omega | grind)
            · refine Pk.adv 5 (by kernel_rfl) ?_
              refine Pk.split p85 (decide (1000 < li)) (by kernel_rfl) (fun h7 => ?_) (fun h7 => ?_)
              · refine Pk.adv 28 (by kernel_rfl) ?_
                refine Pk.fin (v' := AV.bool false) (by kernel_rfl) (by kernel_rfl) (by kernel_rfl) ?_
                (clear hv hw; simp_all [oneB] <;> first | omega | grind)
              · refine Pk.adv 5 (by kernel_rfl) ?_
                refine Pk.split p90 (decide (r < -1)) (by kernel_rfl) (fun h8 => ?_) (fun h8 => ?_)
                · refine Pk.adv 23 (by kernel_rfl) ?_
                  refine Pk.fin (v' := AV.bool false) (by kernel_rfl) (by kernel_rfl) (by kernel_rfl) ?_
                  (clear hv hw; simp_all [oneB] <;> first | omega | grind)
                · refine Pk.adv 5 (by kernel_rfl) ?_
                  refine Pk.split p95 (decide (100 < r)) (by kernel_rfl) (fun h9 => ?_) (fun h9 => ?_)
                  · refine Pk.adv 18 (by kernel_rfl) ?_
                    refine Pk.fin (v' := AV.bool false) (by kernel_rfl) (by kernel_rfl) (by kernel_rfl) ?_
                    (clear hv hw; simp_all [oneB] <;> first | omega | grind)
                  · refine Pk.adv 4 (by kernel_rfl) ?_
                    refine Pk.split p99 (!n) (by kernel_rfl) (fun h10 => ?_) (fun h10 => ?_)
                    · refine Pk.adv 7 (by kernel_rfl) ?_
                      refine Pk.split p105 (decide (0 < (↑(List.length L) : Int))) (by kernel_rfl) (fun h11 => ?_) (fun h11 => ?_)
                      · refine Pk.adv 7 (by kernel_rfl) ?_
                        refine Pk.fin (v' := AV.bool false) (by kernel_rfl) (by kernel_rfl) (by kernel_rfl) ?_
                        (clear hv hw; simp_all [oneB] <;> first | omega | grind)
                      · refine Pk.adv 7 (by kernel_rfl) ?_
                        refine Pk.know p108 (hh) true (by kernel_rfl) h2 ?_
                        refine Pk.adv 2 (by kernel_rfl) ?_
                        refine Pk.call0 (g := CX.c (AV.fn 122 [])) (args := [X110]) (k := 122) (caps := []) (as := [AV.agg [AV.int IntKind.i64 dk, AV.int IntKind.i64 dn, AV.str ds]]) (vs := [AV.agg [AV.int IntKind.i64 dk, AV.int IntKind.i64 dn, AV.str ds]]) (v := AV.bool (valB dk dn ds)) (by kernel_rfl) (by kernel_rfl) (by kernel_rfl) (by kernel_rfl) (by kernel_rfl) (by kernel_rfl) (by kernel_rfl) (hv) ?_
                        refine Pk.adv 2 (by kernel_rfl) ?_
                        refine Pk.split p113 (valB dk dn ds) (by kernel_rfl) (fun h12 => ?_) (fun h12 => ?_)
                        · refine Pk.adv 10 (by kernel_rfl) ?_
                          refine Pk.fin (v' := AV.bool true) (by kernel_rfl) (by kernel_rfl) (by kernel_rfl) ?_
                          (clear hv hw; simp_all [oneB] <;> first | omega | grind)
                        · refine Pk.adv 4 (by kernel_rfl) ?_
                          refine Pk.split p117 (!hh) (by kernel_rfl) (fun h13 => ?_) (fun h13 => ?_)
                          · refine Pk.adv 6 (by kernel_rfl) ?_
                            refine Pk.fin (v' := AV.bool ((fun r => decide (dk = 0) && r) ((fun r => decide (dn = 0) && r) ((fun r => decide (ds = []) && r) true)))) (by kernel_rfl) (by kernel_rfl) (by kernel_rfl) ?_
                            (clear hv hw; simp_all [oneB] <;> first | omega | grind)
                          · refine Pk.adv 6 (by kernel_rfl) ?_
                            refine Pk.fin (v' := AV.bool false) (by kernel_rfl) (by kernel_rfl) (by kernel_rfl) ?_
                            (clear hv hw; simp_all [oneB] <;> first | omega | grind)
                    · refine Pk.adv 14 (by kernel_rfl) ?_
                      refine Pk.know p108 (hh) true (by kernel_rfl) h2 ?_
                      refine Pk.adv 2 (by kernel_rfl) ?_
                      refine Pk.call0 (g := CX.c (AV.fn 122 [])) (args := [X110]) (k := 122) (caps := []) (as := [AV.agg [AV.int IntKind.i64 dk, AV.int IntKind.i64 dn, AV.str ds]]) (vs := [AV.agg [AV.int IntKind.i64 dk, AV.int IntKind.i64 dn, AV.str ds]]) (v := AV.bool (valB dk dn ds)) (by kernel_rfl) (by kernel_rfl) (by kernel_rfl) (by kernel_rfl) (by kernel_rfl) (by kernel_rfl) (by kernel_rfl) (hv) ?_
                      refine Pk.adv 2 (by kernel_rfl) ?_
                      refine Pk.split p113 (valB dk dn ds) (by kernel_rfl) (fun h11 => ?_) (fun h11 => ?_)
                      · refine Pk.adv 10 (by kernel_rfl) ?_
                        refine Pk.fin (v' := AV.bool true) (by kernel_rfl) (by kernel_rfl) (by kernel_rfl) ?_
                        (clear hv hw; simp_all [oneB] <;> first | omega | grind)
                      · refine Pk.adv 4 (by kernel_rfl) ?_
                        refine Pk.split p117 (!hh) (by kernel_rfl) (fun h12 => ?_) (fun h12 => ?_)
                        · refine Pk.adv 6 (by kernel_rfl) ?_
                          refine Pk.fin (v' := AV.bool ((fun r => decide (dk = 0) && r) ((fun r => decide (dn = 0) && r) ((fun r => decide (ds = []) && r) true)))) (by kernel_rfl) (by kernel_rfl) (by kernel_rfl) ?_
                          (clear hv hw; simp_all [oneB] <;> first | omega | grind)
                        · refine Pk.adv 6 (by kernel_rfl) ?_
                          refine Pk.fin (v' := AV.bool false) (by kernel_rfl) (by kernel_rfl) (by kernel_rfl) ?_
                          (clear hv hw; simp_all [oneB] <;> first | omega | grind)
    · refine Pk.adv 7 (by kernel_rfl) ?_
      refine Pk.know p56 (hh) false (by kernel_rfl) h2 ?_
      refine Pk.adv 9 (by kernel_rfl) ?_
      refine Pk.split p65 (n) (by kernel_rfl) (fun h3 => ?_) (fun h3 => ?_)
      · refine Pk.adv 6 (by kernel_rfl) ?_
        refine Pk.split p70 (!decide (r = 0)) (by kernel_rfl) (fun h4 => ?_) (fun h4 => ?_)
        · refine Pk.adv 7 (by kernel_rfl) ?_
          refine Pk.fin (v' := AV.bool false) (by kernel_rfl) (by kernel_rfl) (by kernel_rfl) ?_
          (clear hv hw; simp_all [oneB] <;> first | omega | grind)
        · refine Pk.adv 7 (by kernel_rfl) ?_
          refine Pk.call0 (g := CX.c (AV.fn 121 [])) (args := [X72]) (k := 121) (caps := []) (as := [AV.str a]) (vs := [AV.str a]) (v := AV.bool (wordB a)) (by kernel_rfl) (by kernel_rfl) (by kernel_rfl) (by kernel_rfl) (by kernel_rfl) (by kernel_rfl) (by kernel_rfl) (hw) ?_
          refine Pk.adv 2 (by kernel_rfl) ?_
          refine Pk.split p75 (!wordB a) (by kernel_rfl) (fun h5 => ?_) (fun h5 => ?_)
          · refine Pk.adv 38 (by kernel_rfl) ?_
            refine Pk.fin (v' := AV.bool false) (by kernel_rfl) (by kernel_rfl) (by kernel_rfl) ?_
            (clear hv hw; simp_all [oneB] <;> first | omega | grind)
          · refine Pk.adv 5 (by kernel_rfl) ?_
            refine Pk.split p80 (decide (li < 0)) (by kernel_rfl) (fun h6 => ?_) (fun h6 => ?_)
            · refine Pk.adv 33 (by kernel_rfl) ?_
              refine Pk.fin (v' := AV.bool false) (by kernel_rfl) (by kernel_rfl) (by kernel_rfl) ?_
              (clear hv hw; simp_all [oneB] <;> first | omega | grind)
            · refine Pk.adv 5 (by kernel_rfl) ?_
              refine Pk.split p85 (decide (1000 < li)) (by kernel_rfl) (fun h7 => ?_) (fun h7 => ?_)
              · refine Pk.adv 28 (by kernel_rfl) ?_
                refine Pk.fin (v' := AV.bool false) (by kernel_rfl) (by kernel_rfl) (by kernel_rfl) ?_
                (clear hv hw; simp_all [oneB] <;> first | omega | grind)
              · refine Pk.adv 5 (by kernel_rfl) ?_
                refine Pk.split p90 (decide (r < -1)) (by kernel_rfl) (fun h8 => ?_) (fun h8 => ?_)
                · refine Pk.adv 23 (by kernel_rfl) ?_
                  refine Pk.fin (v' := AV.bool false) (by kernel_rfl) (by kernel_rfl) (by kernel_rfl) ?_
                  (clear hv hw; simp_all [oneB] <;> first | omega | grind)
                · refine Pk.adv 5 (by kernel_rfl) ?_
                  refine Pk.split p95 (decide (100 < r)) (by kernel_rfl) (fun h9 => ?_) (fun h9 => ?_)
                  · refine Pk.adv 18 (by kernel_rfl) ?_
                    refine Pk.fin (v' := AV.bool false) (by kernel_rfl) (by kernel_rfl) (by kernel_rfl) ?_
                    (clear hv hw; simp_all [oneB] <;> first | omega | grind)
                  · refine Pk.adv 4 (by kernel_rfl) ?_
                    refine Pk.split p99 (!n) (by kernel_rfl) (fun h10 => ?_) (fun h10 => ?_)
                    · refine Pk.adv 7 (by kernel_rfl) ?_
                      refine Pk.split p105 (decide (0 < (↑(List.length L) : Int))) (by kernel_rfl) (fun h11 => ?_) (fun h11 => ?_)
                      · refine Pk.adv 7 (by kernel_rfl) ?_
                        refine Pk.fin (v' := AV.bool false) (by kernel_rfl) (by kernel_rfl) (by kernel_rfl) ?_
                        (clear hv hw; simp_all [oneB] <;> first | omega | grind)
                      · refine Pk.adv 7 (by kernel_rfl) ?_
                        refine Pk.know p108 (hh) false (by kernel_rfl) h2 ?_
                        refine Pk.adv 9 (by kernel_rfl) ?_
                        refine Pk.split p117 (!hh) (by kernel_rfl) (fun h12 => ?_) (fun h12 => ?_)
                        · refine Pk.adv 6 (by kernel_rfl) ?_
                          refine Pk.fin (v' := AV.bool ((fun r => decide (dk = 0) && r) ((fun r => decide (dn = 0) && r) ((fun r => decide (ds = []) && r) true)))) (by kernel_rfl) (by kernel_rfl) (by kernel_rfl) ?_
                          (clear hv hw; simp_all [oneB] <;> first | omega | grind)
                        · refine Pk.adv 6 (by kernel_rfl) ?_
                          refine Pk.fin (v' := AV.bool false) (by kernel_rfl) (by kernel_rfl) (by kernel_rfl) ?_
                          (clear hv hw; simp_all [oneB] <;> first | omega | grind)
                    · refine Pk.adv 14 (by kernel_rfl) ?_
                      refine Pk.know p108 (hh) false (by kernel_rfl) h2 ?_
                      refine Pk.adv 9 (by kernel_rfl) ?_
                      refine Pk.split p117 (!hh) (by kernel_rfl) (fun h11 => ?_) (fun h11 => ?_)
                      · refine Pk.adv 6 (by kernel_rfl) ?_
                        refine Pk.fin (v' := AV.bool ((fun r => decide (dk = 0) && r) ((fun r => decide (dn = 0) && r) ((fun r => decide (ds = []) && r) true)))) (by kernel_rfl) (by kernel_rfl) (by kernel_rfl) ?_
                        (clear hv hw; simp_all [oneB] <;> first | omega | grind)
                      · refine Pk.adv 6 (by kernel_rfl) ?_
                        refine Pk.fin (v' := AV.bool false) (by kernel_rfl) (by kernel_rfl) (by kernel_rfl) ?_
                        (clear hv hw; simp_all [oneB] <;> first | omega | grind)
      · refine Pk.adv 13 (by kernel_rfl) ?_
        refine Pk.call0 (g := CX.c (AV.fn 121 [])) (args := [X72]) (k := 121) (caps := []) (as := [AV.str a]) (vs := [AV.str a]) (v := AV.bool (wordB a)) (by kernel_rfl) (by kernel_rfl) (by kernel_rfl) (by kernel_rfl) (by kernel_rfl) (by kernel_rfl) (by kernel_rfl) (hw) ?_
        refine Pk.adv 2 (by kernel_rfl) ?_
        refine Pk.split p75 (!wordB a) (by kernel_rfl) (fun h4 => ?_) (fun h4 => ?_)
        · refine Pk.adv 38 (by kernel_rfl) ?_
          refine Pk.fin (v' := AV.bool false) (by kernel_rfl) (by kernel_rfl) (by kernel_rfl) ?_
          (clear hv hw; simp_all [oneB] <;> first | omega | grind)
        · refine Pk.adv 5 (by kernel_rfl) ?_
          refine Pk.split p80 (decide (li < 0)) (by kernel_rfl) (fun h5 => ?_) (fun h5 => ?_)
          · refine Pk.adv 33 (by kernel_rfl) ?_
            refine Pk.fin (v' := AV.bool false) (by kernel_rfl) (by kernel_rfl) (by kernel_rfl) ?_
            (clear hv hw; simp_all [oneB] <;> first | omega | grind)
          · refine Pk.adv 5 (by kernel_rfl) ?_
            refine Pk.split p85 (decide (1000 < li)) (by kernel_rfl) (fun h6 => ?_) (fun h6 => ?_)
            · refine Pk.adv 28 (by kernel_rfl) ?_
              refine Pk.fin (v' := AV.bool false) (by kernel_rfl) (by kernel_rfl) (by kernel_rfl) ?_
              (clear hv hw; simp_all [oneB] <;> first | omega | grind)
            · refine Pk.adv 5 (by kernel_rfl) ?_
              refine Pk.split p90 (decide (r < -1)) (by kernel_rfl) (fun h7 => ?_) (fun h7 => ?_)
              · refine Pk.adv 23 (by kernel_rfl) ?_
                refine Pk.fin (v' := AV.bool false) (by kernel_rfl) (by kernel_rfl) (by kernel_rfl) ?_
                (clear hv hw; simp_all [oneB] <;> first | omega | grind)
              · refine Pk.adv 5 (by kernel_rfl) ?_
                refine Pk.split p95 (decide (100 < r)) (by kernel_rfl) (fun h8 => ?_) (fun h8 => ?_)
                · refine Pk.adv 18 (by kernel_rfl) ?_
                  refine Pk.fin (v' := AV.bool false) (by kernel_rfl) (by kernel_rfl) (by kernel_rfl) ?_
                  (clear hv hw; simp_all [oneB] <;> first | omega | grind)
                · refine Pk.adv 4 (by kernel_rfl) ?_
                  refine Pk.split p99 (!n) (by kernel_rfl) (fun h9 => ?_) (fun h9 => ?_)
                  · refine Pk.adv 7 (by kernel_rfl) ?_
                    refine Pk.split p105 (decide (0 < (↑(List.length L) : Int))) (by kernel_rfl) (fun h10 => ?_) (fun h10 => ?_)
                    · refine Pk.adv 7 (by kernel_rfl) ?_
                      refine Pk.fin (v' := AV.bool false) (by kernel_rfl) (by kernel_rfl) (by kernel_rfl) ?_
                      (clear hv hw; simp_all [oneB] <;> first | omega | grind)
                    · refine Pk.adv 7 (by kernel_rfl) ?_
                      refine Pk.know p108 (hh) false (by kernel_rfl) h2 ?_
                      refine Pk.adv 9 (by kernel_rfl) ?_
                      refine Pk.split p117 (!hh) (by kernel_rfl) (fun h11 => ?_) (fun h11 => ?_)
                      · refine Pk.adv 6 (by kernel_rfl) ?_
                        refine Pk.fin (v' := AV.bool ((fun r => decide (dk = 0) && r) ((fun r => decide (dn = 0) && r) ((fun r => decide (ds = []) && r) true)))) (by kernel_rfl) (by kernel_rfl) (by kernel_rfl) ?_
                        (clear hv hw; simp_all [oneB] <;> first | omega | grind)
                      · refine Pk.adv 6 (by kernel_rfl) ?_
                        refine Pk.fin (v' := AV.bool false) (by kernel_rfl) (by kernel_rfl) (by kernel_rfl) ?_
                        (clear hv hw; simp_all [oneB] <;> first | omega | grind)
                  · refine Pk.adv 14 (by kernel_rfl) ?_
                    refine Pk.know p108 (hh) false (by kernel_rfl) h2 ?_
                    refine Pk.adv 9 (by kernel_rfl) ?_
                    refine Pk.split p117 (!hh) (by kernel_rfl) (fun h10 => ?_) (fun h10 => ?_)
                    · refine Pk.adv 6 (by kernel_rfl) ?_
                      refine Pk.fin (v' := AV.bool ((fun r => decide (dk = 0) && r) ((fun r => decide (dn = 0) && r) ((fun r => decide (ds = []) && r) true)))) (by kernel_rfl) (by kernel_rfl) (by kernel_rfl) ?_
                      (clear hv hw; simp_all [oneB] <;> first | omega | grind)
                    · refine Pk.adv 6 (by kernel_rfl) ?_
                      refine Pk.fin (v' := AV.bool false) (by kernel_rfl) (by kernel_rfl) (by kernel_rfl) ?_
                      (clear hv hw; simp_all [oneB] <;> first | omega | grind)
end Go.EV
