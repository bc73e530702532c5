/- strings.Builder's inner functions at this program: walks. -/
import Derived.Test.YtkcabichlinkmaaGreatDoorHShelf
import Derived.Test.YtkcabichlinkmaaGreatDoorHM6
import Derived.WalkKit
import Derived.Lib.Builder
import Derived.Lib.UnsafeStr
import Derived.Laws.Externs
import Derived.Laws.IdiomCopy
import Derived.Lib.Strings
import Derived.Lib.Slices
import Derived.Shelf.RegionOpenPlain
set_option linter.unusedVariables false
namespace Go.Proofs
open Go.Shelf Go.RowKit

set_option maxHeartbeats 1000000 in
set_option maxRecDepth 100000 in
theorem Tryz.cc_fresh (b : Nat) (w : World) (T n : Nat) (h0 : w.cell? ⟨b, 0, none⟩ = some (.pointer none)) (hsh : w.shape? b = some (T, n)) (hn : 0 < n) (hl : liesAt Tryz.prog Tryz.prog.depth T (n / Tryz.prog.cellsOf T) 0 148 1 = true) (hfz : w.frozen? ⟨b, 0, none⟩ = false) :
    Calls Tryz.prog 161 #[.pointer (some ⟨b, 0, none⟩)] w fun e w' => e = .returned (.tuple #[]) ∧ w' = w.setCell ⟨b, 0, none⟩ (.pointer (some ⟨b, 0, none⟩)) := by
  obtain ⟨j, hj, hjs⟩ : ∃ j, Tryz.prog.info? 148 = some j ∧ j.size = 2 := Option.map_eq_some_iff.1 (show (Tryz.prog.info? 148).map (·.size) = some 2 by kernel_rfl)
  go_enter Tryz.func161, Tryz.ntmps161
  go_wp2
  rw [Lib.run_to_unsafe w ⟨b, 0, none⟩ Tryz.underlying145 Tryz.underlying254 hj (by rw [hjs]; decide) hsh hn]
  simp only [Result.andThen]
  rw [Oper.upon_value]
  go_wp2
  rw [run_callFunc_extern Tryz.func194 (by kernel_rfl) (by kernel_rfl) (by kernel_rfl) (e := Extern.AbiNoEscape.same) (by kernel_rfl)]
  rw [Lib.run_noEscape]
  simp only [Result.andThen]
  rw [Oper.upon_value]
  go_wp2
  rw [Lib.run_from_unsafe w ⟨b, 0, none⟩ Tryz.underlying254 Tryz.underlying145 hj hsh hl]
  simp only [Result.andThen]
  rw [Oper.upon_value]
  go_wp2
  go_end0
  exact ⟨rfl, rfl⟩

set_option maxHeartbeats 1000000 in
set_option maxRecDepth 100000 in
theorem Tryz.cc_used (b : Nat) (w : World) (h0 : w.cell? ⟨b, 0, none⟩ = some (.pointer (some ⟨b, 0, none⟩))) :
    Calls Tryz.prog 161 #[.pointer (some ⟨b, 0, none⟩)] w fun e w' => e = .returned (.tuple #[]) ∧ w' = w := by
  obtain ⟨j, hj, hjs⟩ : ∃ j, Tryz.prog.info? 148 = some j ∧ j.size = 2 := Option.map_eq_some_iff.1 (show (Tryz.prog.info? 148).map (·.size) = some 2 by kernel_rfl)
  go_enter Tryz.func161, Tryz.ntmps161
  go_wp2
  rw [Lib.run_neq_ptr_same w _ Tryz.underlying145 hj]
  go_wp2
  go_wp2
  go_end0
  exact ⟨rfl, rfl⟩

set_option maxHeartbeats 2000000 in
set_option maxRecDepth 100000 in
theorem Tryz.bs_nil (b : Nat) (w : World) (h1 : w.cell? ⟨b, 1, none⟩ = some (.slice none 0 0)) :
    Calls Tryz.prog 86 #[.pointer (some ⟨b, 0, none⟩)] w fun e w' => e = .returned (.string ⟨#[]⟩) ∧ w' = w.drew := by
  have hUS : ∀ W q, (Builtin.unsafeString_ #[196, 3] 9 #[.pointer q, .int .i64 0]).run Tryz.prog W = .ok (.string .empty) W := fun W q => Lib.run_unsafeString_none W _ _ _ q
  have c1 : w.drew.cell? ⟨b, 1, none⟩ = some (.slice none 0 0) := h1
  have hSD : (Builtin.unsafeSliceData_ #[146] 196 #[.slice none 0 0]).run Tryz.prog w.drew = .ok (.pointer none) w.drew := rfl
  go_enter Tryz.func86, Tryz.ntmps86
  go_wp2
  go_region
  all_goals (go_wp2; go_ret; exact ⟨rfl, rfl⟩)

/-- In a row of 'count' bytes, n of them lie side by side from a place on. -/
theorem liesAt_bytes_off {P : Program} {e : TypeId} (hc : P.cellsOf e = 1) (count off n : Nat) (hn : off + n ≤ count) : liesAt P P.depth e count off e n = true := by
  have hd : P.depth = (2 * (P.types.size + Made.depth) + 1) + 1 := rfl
  rw [hd]
  simp only [liesAt, Bool.or_eq_true]
  left
  rw [hd]
  simp [rowAt, hc, hn, sameLayout, Nat.mod_one]
theorem run_unsafeString_off {P : Program} (w : World) (pt it ty e : TypeId) (hp : P.underlying pt = some (.pointer e)) (hc : P.cellsOf e = 1) (g off cells : Nat) (hsh : w.shape? g = some (e, cells)) (l : List UInt8) (h0 : l ≠ []) (hn : off + l.length ≤ cells) (h63 : l.length ≤ 9223372036854775807)
    (hcell : ∀ j x, l[j]? = some x → w.cell? ((⟨g, off, none⟩ : Addr).add j) = some (.int .u8 x.toNat)) :
    (Builtin.unsafeString_ #[pt, it] ty #[.pointer (some ⟨g, off, none⟩), .int .i64 l.length]).run P w = .ok (.string ⟨l.toArray⟩) (w.freeze ⟨g, off, none⟩ l.length) := by
  have hl : l.length ≠ 0 := by simpa using h0
  have hlb := Lib.run_loadBytes (P := P) w l ⟨g, off, none⟩ .empty hcell
  have hlies := liesAt_bytes_off (P := P) hc (cells / P.cellsOf e) off l.length (by rw [hc]; simpa using hn)
  have h63' : ¬ (9223372036854775807 : Int) < (l.length : Int) := by omega
  have hdef : Builtin.unsafeString_ #[pt, it] ty #[.pointer (some ⟨g, off, none⟩), .int .i64 l.length] =
      (do
        let n ← asInt (.int .i64 l.length)
        if n < 0 then runtimePanic (.error "unsafe.String: len out of range")
        if n > IntKind.i64.max then unsupported (.unsafePointer "String: a length above the largest int")
        if n = 0 then pure (.string .empty)
        else if ← variablesAt ⟨g, off, none⟩ (← elemOf pt) n.toNat then do
          let s ← loadBytes ⟨g, off, none⟩ .empty n.toNat
          freeze ⟨g, off, none⟩ n.toNat
          pure (.string s)
        else unsupported (.unsafePointer "String: not so many bytes at ptr")) := rfl
  rw [hdef]
  have hmax : IntKind.i64.max = 9223372036854775807 := rfl
  have hneg : ¬ (l.length : Int) < 0 := by omega
  simp [asInt, asIntOf, hmax, h63', hneg, hl, variablesAt, hsh, elemOf, run_underlying hp, hlies, hlb]

set_option maxHeartbeats 2000000 in
set_option maxRecDepth 100000 in
theorem Tryz.bs_some (b g off cells cap : Nat) (w : World) (l : List UInt8) (h1 : w.cell? ⟨b, 1, none⟩ = some (.slice (some ⟨g, off, none⟩) l.length cap)) (hcap : cap ≠ 0) (hsh : w.shape? g = some (5, cells)) (h0 : l ≠ []) (hn : off + l.length ≤ cells) (h63 : l.length ≤ 9223372036854775807)
    (hcell : ∀ j x, l[j]? = some x → w.cell? ((⟨g, off, none⟩ : Addr).add j) = some (.int .u8 x.toNat)) :
    Calls Tryz.prog 86 #[.pointer (some ⟨b, 0, none⟩)] w fun e w' => e = .returned (.string ⟨l.toArray⟩) ∧ w' = w.drew.freeze ⟨g, off, none⟩ l.length := by
  have hUS := run_unsafeString_off (P := Tryz.prog) w.drew 196 3 9 5 Tryz.underlying196 (by kernel_rfl) g off cells hsh l h0 hn h63 hcell
  have c1 : w.drew.cell? ⟨b, 1, none⟩ = some (.slice (some ⟨g, off, none⟩) l.length cap) := h1
  have hSD : (Builtin.unsafeSliceData_ #[146] 196 #[.slice (some ⟨g, off, none⟩) l.length cap]).run Tryz.prog w.drew = .ok (.pointer (some ⟨g, off, none⟩)) w.drew := Lib.run_unsafeSliceData_row _ _ _ _ _ _ hcap
  clear hcell hsh
  generalize hL : l.length = n at *
  go_enter Tryz.func86, Tryz.ntmps86
  go_wp2
  go_region
  all_goals (go_wp2; go_ret; exact ⟨rfl, rfl⟩)
end Go.Proofs

/- strings.Builder's inner functions are told. -/
namespace Go.EV
open Go.RowKit Go.Proofs
variable {Fb : Fz}

/-- At which types' variables a Builder stands at the head. -/
def OksOk (P : Program) (oks : List (Nat × Nat)) : Prop := ∀ x ∈ oks, spec P x.1 = true ∧ 0 < x.2 ∧ liesAt P P.depth x.1 (x.2 / P.cellsOf x.1) 0 148 1 = true

theorem head_at {P : Program} {m : Mp} {F : Fz} {H : Hp} {w : World} (hw : WR P Fb m F H w) {b st ty : Nat} {cs : List AV} (hb : H[b]? = some (.cells st ty cs)) (hs : spec P ty = true) {u : Value} (hv : VR m F (.ptr b 0) u) :
    ∃ (p : Pl) (arr : Array Value) (fr : Nat × Nat), m b = some p ∧ u = .pointer (some ⟨p.c, 0, none⟩) ∧ p.d = 0 ∧ w.heap[p.c]? = some (.cells arr ty fr) ∧ arr.size = cs.length ∧ (∀ (i : Nat) (v : AV), cs[i]? = some v → ∃ v', arr[i]? = some v' ∧ VR m F v v') ∧ (st = 1 → fr.1 = fr.2) := by
  cases hv with
  | ptr _ _ p hm =>
  obtain ⟨k, hk, hbr⟩ := hw.blk b p hm
  rw [hb] at hk; cases hk
  obtain ⟨h1, arr, lo, hi, h2, h3, h4, h5, h6, h7, h8, h9⟩ := hbr
  obtain ⟨e1, e2⟩ := h9 hs
  have hh : w.heap[p.c]? = some (.cells arr ty (lo, hi)) := by
    by_cases e0 : st = 0
    · exact hw.fz _ _ (h2 e0)
    · exact h3 e0
  refine ⟨p, arr, (lo, hi), hm, by rw [e1], e1, hh, h5.trans e2, fun i v e => ?_, h7⟩
  obtain ⟨v', a, b⟩ := h6 i v e
  exact ⟨v', by rw [e1, Nat.zero_add] at a; exact a, b⟩

theorem prim_copyCheck {oks : List (Nat × Nat)} (ho : OksOk Tryz.prog oks) : PrimAt Tryz.prog Fb 161 (pCopyCheck oks) := by
  intro vals H v H' h m F w us hw hv
  unfold pCopyCheck at h
  split at h
  · rename_i b
    split at h
    · rename_i ty cs hb
      split at h
      · rename_i hin
        obtain ⟨hs, hn, hl⟩ := ho _ hin
        obtain ⟨x, rfl, hx⟩ := vrl1 hv
        obtain ⟨p, arr, fr, hm, rfl, hd, hh, hsz, hc, hfr⟩ := head_at hw hb hs hx
        have hfr := hfr rfl
        split at h
        · rename_i h0
          cases h
          obtain ⟨v0, a0, b0⟩ := hc 0 _ h0
          cases b0
          have hcell : w.cell? ⟨p.c, 0, none⟩ = some (.pointer none) := by simp [World.cell?, hh, a0]
          have hsh : w.shape? p.c = some (ty, cs.length) := by simp [World.shape?, hh, hsz]
          have hfz : w.frozen? ⟨p.c, 0, none⟩ = false := by
            obtain ⟨lo, hi⟩ := fr
            simp only at hfr
            subst hfr
            simp [World.frozen?, hh]
          refine callsIn_wide.2 ((Tryz.cc_fresh p.c w ty cs.length hcell hsh hn hl hfz).mono fun e w' ⟨h1, h2⟩ => ?_)
          subst h2
          have hne : 0 < cs.length := hn
          have hmut : mutAt H b := ⟨_, hb, by simp [mutB]⟩
          have hlen : 0 + [AV.ptr b 0].length ≤ cs.length := by simp; omega
          have hpt : VR m F (.ptr b 0) (.pointer (some ⟨p.c, 0, none⟩)) := by
            have := VR.ptr (m := m) (F := F) b 0 p hm
            rw [hd] at this; exact this
          obtain ⟨k, hk, hbr⟩ := hw.blk b p hm
          rw [hb] at hk; cases hk
          obtain ⟨g1, arr2, lo, hi, _, g3, g4, g5, g6, g7, g8, g9⟩ := hbr
          have g3 := g3 (by decide)
          rw [hh] at g3
          simp only [Option.some.injEq, Obj.cells.injEq, true_and] at g3
          obtain ⟨rfl, rfl⟩ := g3
          rw [setCell_put hh]
          obtain ⟨t1, t2⟩ := hw.turn hm hmut (.cells 1 ty (stc cs 0 [.ptr b 0])) (.cells (arr.setIfInBounds 0 (.pointer (some ⟨p.c, 0, none⟩))) ty (lo, hi))
            ⟨by rw [stc_length hlen]; exact g1, _, lo, hi, (fun h => by cases h), fun _ => World.putObj_heap_same (Array.getElem?_eq_some_iff.1 hh).1, by rw [stc_length hlen]; simpa using g4, by simpa using g5, fun i v e => by
              rw [stc_get hlen] at e
              rw [hd, Nat.zero_add]
              by_cases hi0 : i = 0
              · subst hi0
                simp at e
                subst e
                exact ⟨_, by rw [Array.getElem?_setIfInBounds_self, if_pos (by omega)], hpt⟩
              · rw [if_neg (by simp; omega)] at e
                rw [Array.getElem?_setIfInBounds_ne (fun e => hi0 e.symm)]
                exact hc i v e, fun _ => hfr, fun _ => .inl hfr, fun e => by rw [stc_length hlen]; exact g9 e⟩ (fun r e => by rw [hh] at e; cases e)
          exact ⟨_, h1, m, F, .tup [] #[] rfl (fun i v v' e => by simp at e), t1, t2⟩
        · rename_i b' h0
          split at h
          · rename_i hbb
            cases h
            subst hbb
            obtain ⟨v0, a0, b0⟩ := hc 0 _ h0
            cases b0 with
            | ptr _ _ p' hm' =>
            rw [hm] at hm'; cases hm'
            have hcell : w.cell? ⟨p.c, 0, none⟩ = some (.pointer (some ⟨p.c, 0, none⟩)) := by simp [World.cell?, hh, a0, hd]
            refine ret_below hw ((Tryz.cc_used p.c w hcell).mono fun e w' ⟨h1, h2⟩ => ?_)
            subst h2
            exact ⟨_, h1, .tup [] #[] rfl (fun i v v' e => by simp at e), Below.refl _ _⟩
          · cases h
        · cases h
      · cases h
    · cases h
  · cases h

theorem freeze_put {w : World} {c off n : Nat} {arr : Array Value} {t : TypeId} {lo hi : Nat} (h : w.heap[c]? = some (.cells arr t (lo, hi))) (hn : n ≠ 0) :
    w.freeze ⟨c, off, none⟩ n = w.putObj c (.cells arr t (if lo == hi then (off, off + n) else (min lo off, max hi (off + n)))) := by
  unfold World.freeze World.putObj
  rw [if_neg hn]
  congr 1
  apply Array.ext_getElem?
  intro i
  rw [Array.getElem?_modify]
  by_cases hi : i = c
  · subst hi
    rw [if_pos rfl, h, Array.getElem?_setIfInBounds_self, if_pos (Array.getElem?_eq_some_iff.1 h).1]
    rfl
  · rw [if_neg (fun e => hi e.symm), Array.getElem?_setIfInBounds_ne (fun e => hi e.symm)]

theorem bytes_of {cs : List AV} {n : Nat} {s : List Nat} (hl : cs.length = n) (h : optL byteOf (chunks 1 cs 0 n) = some s) : s.length = n ∧ ∀ (j x : Nat), s[j]? = some x → x < 256 ∧ cs[j]? = some (.int .u8 x) := by
  obtain ⟨h1, h2⟩ := optL_spec _ _ h
  have hcl : (chunks 1 cs 0 n).length = n := chunks_length 1 cs n 0
  refine ⟨h1.trans hcl, fun j x e => ?_⟩
  obtain ⟨c, q1, q2⟩ := h2 j x e
  have hj : j < n := by rw [← hcl]; exact (List.getElem?_eq_some_iff.1 q1).1
  rw [chunks_get n 0 j hj] at q1
  cases q1
  unfold byteOf at q2
  split at q2
  · rename_i y hy
    split at q2
    · rename_i hlt
      cases q2
      refine ⟨hlt, ?_⟩
      have := congrArg (fun l => l[0]?) hy
      simp only [List.getElem?_take_of_lt (by omega : 0 < 1), List.getElem?_drop] at this
      simpa using this
    · cases q2
  · cases q2

theorem prim_String {oks : List (Nat × Nat)} (ho : OksOk Tryz.prog oks) : PrimAt Tryz.prog Fb 86 (pString oks 5) := by
  intro vals H v H' h m F w us hw hv
  unfold pString at h
  split at h
  · rename_i b
    split at h
    · rename_i st0 ty cs hb
      split at h
      · rename_i hin
        obtain ⟨hs, hn, hl⟩ := ho _ hin
        obtain ⟨x, rfl, hx⟩ := vrl1 hv
        obtain ⟨p, arr, fr, hm, rfl, hd, hh, hsz, hc, _⟩ := head_at hw hb hs hx
        split at h
        · rename_i h1
          cases h
          obtain ⟨v0, a0, b0⟩ := hc 1 _ h1
          cases b0
          have hcell : w.cell? ⟨p.c, 1, none⟩ = some (.slice none 0 0) := by simp [World.cell?, hh, a0]
          refine ret_below hw ((Tryz.bs_nil p.c w hcell).mono fun e w' ⟨h1, h2⟩ => ?_)
          subst h2
          exact ⟨_, h1, .str _ _ rfl, Below.drew (Below.refl _ _)⟩
        · rename_i b2 n h1
          split at h
          · rename_i st ty2 cs2 hb2
            split at h
            · rename_i hq
              obtain ⟨rfl, hcl, hn0, hmx⟩ := hq
              split at h
              · rename_i s hs2
                cases h
                obtain ⟨v0, a0, b0⟩ := hc 1 _ h1
                cases b0 with
                | sl _ _ _ _ p2 a cap hm2 hle ha =>
                obtain ⟨ha1, ha2⟩ := ha (by omega)
                subst ha1
                obtain ⟨hsl, hsx⟩ := bytes_of hcl hs2
                obtain ⟨k, hk, hbr⟩ := hw.blk b2 p2 hm2
                rw [hb2] at hk; cases hk
                obtain ⟨g1, arr2, lo, hi, _, g3, g4, g5, g6, g7, g8, g9⟩ := hbr
                have g3 := g3 (by omega)
                have hl8 : (toU8 s).length = n := by simp [toU8, hsl]
                have hget : ∀ (j : Nat) (x : UInt8), (toU8 s)[j]? = some x → ∃ y : Nat, s[j]? = some y ∧ x.toNat = y := by
                  intro j x e
                  unfold toU8 at e
                  rw [List.getElem?_map] at e
                  obtain ⟨y, hy, rfl⟩ := map_some e
                  refine ⟨y, hy, ?_⟩
                  have := (hsx j y hy).1
                  simp; omega
                have hcell : w.cell? ⟨p.c, 1, none⟩ = some (.slice (some ⟨p2.c, p2.d + 0, none⟩) n cap) := by simp [World.cell?, hh, a0]
                have hsh : w.shape? p2.c = some (5, arr2.size) := by simp [World.shape?, g3]
                have hbs := Tryz.bs_some p.c p2.c (p2.d + 0) arr2.size cap w (toU8 s) (by rw [hl8]; exact hcell) (by omega) hsh (fun e => by rw [e] at hl8; simp at hl8; omega) (by rw [hl8]; omega) (by rw [hl8]; unfold mxLen at hmx; omega) (by
                  intro j x e
                  obtain ⟨y, hy, hxy⟩ := hget j x e
                  obtain ⟨v', q1, q2⟩ := g6 j _ (hsx j y hy).2
                  obtain rfl := vr_int q2
                  rw [hxy]
                  have hadd : (⟨p2.c, p2.d + 0, none⟩ : Addr).add j = ⟨p2.c, p2.d + j, none⟩ := by
                    unfold Addr.add
                    split
                    · rename_i h; have : j = 0 := by simpa using h
                      subst this; rfl
                    · simp
                  rw [hadd]
                  simp only [World.cell?, g3]
                  exact q1)
                refine callsIn_wide.2 (hbs.mono fun e w' ⟨e1, e2⟩ => ?_)
                subst e2
                obtain ⟨w1, d1⟩ := hw.drew
                have hmut : mutAt H b2 := ⟨_, hb2, by simp [mutB]⟩
                have g3' : w.drew.heap[p2.c]? = some (.cells arr2 5 (lo, hi)) := g3
                rw [hl8, freeze_put g3' (by omega)]
                obtain ⟨t1, t2⟩ := w1.turn hm2 hmut (.cells 2 5 cs2) (.cells arr2 5 (if lo == hi then (p2.d + 0, p2.d + 0 + n) else (min lo (p2.d + 0), max hi (p2.d + 0 + n))))
                  ⟨g1, arr2, (if lo == hi then (p2.d + 0, p2.d + 0 + n) else (min lo (p2.d + 0), max hi (p2.d + 0 + n))).1, (if lo == hi then (p2.d + 0, p2.d + 0 + n) else (min lo (p2.d + 0), max hi (p2.d + 0 + n))).2, (fun h => by cases h), fun _ => World.putObj_heap_same (Array.getElem?_eq_some_iff.1 g3').1, g4, g5, g6, (fun h => by cases h), fun _ => by
                    right
                    by_cases e : lo = hi
                    · simp [e, hcl]
                    · have : (lo == hi) = false := by simpa using e
                      simp only [this, Bool.false_eq_true, if_false]
                      have := (g8 (by omega)).resolve_left e
                      omega, g9⟩ (fun r e => by rw [g3'] at e; cases e)
                refine ⟨_, e1, m, F, .str _ _ ?_, t1, d1.trans t2⟩
                apply List.ext_getElem?
                intro j
                rw [List.getElem?_map]
                cases hj : s[j]? with
                | none =>
                  have : (toU8 s)[j]? = none := by
                    rw [List.getElem?_eq_none_iff] at hj ⊢
                    rw [hl8]; omega
                  simp [this]
                | some y =>
                  obtain ⟨x, hx⟩ : ∃ x, (toU8 s)[j]? = some x := ⟨_, by unfold toU8; rw [List.getElem?_map, hj]; rfl⟩
                  obtain ⟨y', hy', hxy⟩ := hget j x hx
                  rw [hj] at hy'; cases hy'
                  simp [hx, hxy]
              · cases h
            · cases h
          · cases h
        · cases h
      · cases h
    · cases h
  · cases h
end Go.EV
