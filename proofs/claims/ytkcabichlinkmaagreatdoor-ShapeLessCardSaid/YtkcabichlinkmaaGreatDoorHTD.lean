/- Patterns: what both sides say is the same. -/
import Derived.Test.YtkcabichlinkmaaGreatDoorHTC
import Derived.Test.YtkcabichlinkmaaGreatDoorHTB
import Derived.Test.YtkcabichlinkmaaGreatDoorHPB
namespace Go.EV
theorem triv {σ : Type} : ∀ (n : Nat) (l : List It), SizeOf.sizeOf l < n → ∀ (step : σ → Nat → List It → σ × Bool), (∀ s d l, step s d l = (s, true)) → ∀ d s, It.runL step l d s = (s, true) ∧ runI step l d s = (s, true) := by
  intro n
  induction n with
  | zero => intro l h; omega
  | succ n ih =>
    intro l hn step hs d s
    have h1 : It.runL step l d s = (s, true) := by
      cases l with
      | nil => rw [It.runL]
      | cons x r =>
        obtain ⟨w, a, b, li, hh, dk, dn, ds, nn, sub, q⟩ := x
        simp only [List.cons.sizeOf_spec, It.mk.sizeOf_spec] at hn
        have e1 := (ih sub (by omega) (subStep nn step) (fun s d l => by unfold subStep; split <;> first | exact hs _ _ _ | rfl) (d + 1) s).2
        rw [runL_cons, It.runX_eq, e1, if_pos rfl]
        exact (ih r (by omega) step hs d s).1
    refine ⟨h1, ?_⟩
    rw [runI_tt (by rw [hs]), hs, h1]
    split <;> rfl
theorem subStep_true {σ : Type} (step : σ → Nat → List It → σ × Bool) : subStep true step = step := by
  funext s d l
  rfl
theorem runX_no {w : Bool} {a : List Nat} {b : Bool} {li : Int} {h : Bool} {dk dn : Int} {ds : List Nat} {sub : List It} {r : Int} {d : Nat} {m : Int} : It.runX stepM (.mk w a b li h dk dn ds false sub r) d m = (m, true) := by
  rw [It.runX_eq]
  exact (triv _ sub (Nat.lt_succ_self _) _ (fun _ _ _ => rfl) (d + 1) m).2
theorem runX_yes {w : Bool} {a : List Nat} {b : Bool} {li : Int} {h : Bool} {dk dn : Int} {ds : List Nat} {sub : List It} {r : Int} {d : Nat} {m : Int} : It.runX stepM (.mk w a b li h dk dn ds true sub r) d m = runI stepM sub (d + 1) m := by
  rw [It.runX_eq, subStep_true]
theorem stepM_true {m : Int} {d : Nat} {l : List It} : (stepM m d l).2 = true ↔ d ≤ 20 ∧ IntKind.i64.wrap (m + Int.ofNat l.length) ≤ 1000 ∧ lsOk l = true := by
  show (decide _ && (decide _ && _)) = true ↔ _
  rw [Bool.and_eq_true, Bool.and_eq_true, decide_eq_true_eq, decide_eq_true_eq]
/-- What may be, is fine and not too deep. -/
theorem run_fine : ∀ (n : Nat) (l : List It), SizeOf.sizeOf l < n → ∀ (d : Nat) (m : Int), 1 ≤ d → ((It.runL stepM l d m).2 = true → d ≤ 20 → It.fins l = true ∧ d - 1 + It.deps l ≤ 20) ∧ ((runI stepM l d m).2 = true → fineB l = true ∧ d - 1 + It.deps l ≤ 20) := by
  intro n
  induction n with
  | zero => intro l h; omega
  | succ n ih =>
    intro l hn d m hd
    have h1 : ∀ m, (It.runL stepM l d m).2 = true → d ≤ 20 → It.fins l = true ∧ d - 1 + It.deps l ≤ 20 := by
      intro m hr h20
      cases l with
      | nil => exact ⟨rfl, by simp [It.deps]; omega⟩
      | cons x r =>
        obtain ⟨w, a, b, li, hh, dk, dn, ds, nn, sub, q⟩ := x
        simp only [List.cons.sizeOf_spec, It.mk.sizeOf_spec] at hn
        rw [runL_cons] at hr
        cases nn with
        | false =>
          rw [runX_no, if_pos rfl] at hr
          obtain ⟨q1, q2⟩ := (ih r (by omega) d m hd).1 hr h20
          have e1 : (It.mk w a b li hh dk dn ds false sub q).fin = true := by simp [It.fin]
          have e2 : (It.mk w a b li hh dk dn ds false sub q).dep = 1 := by simp [It.dep]
          exact ⟨by rw [It.fins, e1, q1]; rfl, by rw [It.deps, e2]; omega⟩
        | true =>
          rw [runX_yes] at hr
          cases hx : (runI stepM sub (d + 1) m).2 with
          | false => rw [hx, if_neg (by simp)] at hr; cases hr
          | true =>
            rw [hx, if_pos rfl] at hr
            obtain ⟨q1, q2⟩ := (ih r (by omega) d _ hd).1 hr h20
            obtain ⟨q3, q4⟩ := (ih sub (by omega) (d + 1) m (by omega)).2 hx
            have e1 : (It.mk w a b li hh dk dn ds true sub q).fin = fineB sub := by simp [It.fin, fineB]
            have e2 : (It.mk w a b li hh dk dn ds true sub q).dep = It.deps sub + 1 := by simp [It.dep]
            exact ⟨by rw [It.fins, e1, q1, q3]; rfl, by rw [It.deps, e2]; omega⟩
    refine ⟨h1 m, fun hr => ?_⟩
    cases hs : (stepM m d l).2 with
    | false => rw [runI_ff hs] at hr; cases hr
    | true =>
      obtain ⟨s1, s2, s3⟩ := stepM_true.1 hs
      rw [runI_tt hs, if_neg (by omega)] at hr
      obtain ⟨q1, q2⟩ := h1 _ hr s1
      exact ⟨by unfold fineB; rw [s3, q1]; rfl, q2⟩
theorem wrap_small {z : Int} (h0 : 0 ≤ z) (h1 : z < 9223372036854775807) : IntKind.i64.wrap z = z := by
  simp only [IntKind.wrap, IntKind.bits, IntKind.signed]
  simp
  omega
theorem stepM_small {m d : Nat} {l : List It} (h : m + l.length < 100000) : stepM (Int.ofNat m) d l = (Int.ofNat (m + l.length), decide (d ≤ 20) && (decide (m + l.length ≤ 1000) && lsOk l)) := by
  have e : IntKind.i64.wrap (Int.ofNat m + Int.ofNat l.length) = Int.ofNat (m + l.length) := wrap_add (by omega)
  unfold stepM
  rw [e]
  have : decide (Int.ofNat (m + l.length) ≤ 1000) = decide (m + l.length ≤ 1000) := by apply decide_eq_decide.2; simp; omega
  rw [this]
theorem run_small : ∀ (n : Nat) (l : List It), SizeOf.sizeOf l < n → ∀ (d m : Nat), 1 ≤ d → m ≤ 1000 → It.cnts l ≤ 3000 →
    (d ≤ 20 → (m + (It.cnts l - l.length) ≤ 1000 ∧ d - 1 + It.deps l ≤ 20 ∧ It.fins l = true → It.runL stepM l d (Int.ofNat m) = (Int.ofNat (m + (It.cnts l - l.length)), true)) ∧ (¬ (m + (It.cnts l - l.length) ≤ 1000 ∧ d - 1 + It.deps l ≤ 20 ∧ It.fins l = true) → (It.runL stepM l d (Int.ofNat m)).2 = false)) ∧
    ((m + It.cnts l ≤ 1000 ∧ d - 1 + It.deps l ≤ 20 ∧ fineB l = true → runI stepM l d (Int.ofNat m) = (Int.ofNat (m + It.cnts l), true)) ∧ (¬ (m + It.cnts l ≤ 1000 ∧ d - 1 + It.deps l ≤ 20 ∧ fineB l = true) → (runI stepM l d (Int.ofNat m)).2 = false)) := by
  intro n
  induction n with
  | zero => intro l h; omega
  | succ n ih =>
    intro l hn d m hd hm hc
    have hlc := It.len_cnts l
    have h1 : ∀ m, m ≤ 1000 → d ≤ 20 → (m + (It.cnts l - l.length) ≤ 1000 ∧ d - 1 + It.deps l ≤ 20 ∧ It.fins l = true → It.runL stepM l d (Int.ofNat m) = (Int.ofNat (m + (It.cnts l - l.length)), true)) ∧ (¬ (m + (It.cnts l - l.length) ≤ 1000 ∧ d - 1 + It.deps l ≤ 20 ∧ It.fins l = true) → (It.runL stepM l d (Int.ofNat m)).2 = false) := by
      intro m hm h20
      cases l with
      | nil => exact ⟨fun _ => by rw [It.runL]; rfl, fun h => absurd ⟨by simp [It.cnts]; omega, by simp [It.deps]; omega, rfl⟩ h⟩
      | cons x r =>
        obtain ⟨w, a, b, li, hh, dk, dn, ds, nn, sub, q⟩ := x
        simp only [List.cons.sizeOf_spec, It.mk.sizeOf_spec] at hn
        have hlr := It.len_cnts r
        rw [runL_cons]
        cases nn with
        | false =>
          have e0 : (It.mk w a b li hh dk dn ds false sub q).cnt = 0 := by simp [It.cnt]
          have e1 : (It.mk w a b li hh dk dn ds false sub q).fin = true := by simp [It.fin]
          have e2 : (It.mk w a b li hh dk dn ds false sub q).dep = 1 := by simp [It.dep]
          have hp := It.deps_pos r
          rw [It.cnts, e0] at hc
          obtain ⟨q1, q2⟩ := (ih r (by omega) d m hd hm (by omega)).1 h20
          rw [runX_no, if_pos rfl, It.cnts, It.deps, It.fins, e0, e1, e2, Bool.true_and, List.length_cons, show 0 + It.cnts r + 1 - (r.length + 1) = It.cnts r - r.length by omega, show max 1 (It.deps r) = It.deps r by omega]
          exact ⟨q1, q2⟩
        | true =>
          have e0 : (It.mk w a b li hh dk dn ds true sub q).cnt = It.cnts sub := by simp [It.cnt]
          have e1 : (It.mk w a b li hh dk dn ds true sub q).fin = fineB sub := by simp [It.fin, fineB]
          have e2 : (It.mk w a b li hh dk dn ds true sub q).dep = It.deps sub + 1 := by simp [It.dep]
          rw [It.cnts, e0] at hc
          rw [runX_yes, It.cnts, It.deps, It.fins, e0, e1, e2, List.length_cons, Bool.and_eq_true]
          obtain ⟨p1, p2⟩ := (ih sub (by omega) (d + 1) m (by omega) hm (by omega)).2
          by_cases hs : m + It.cnts sub ≤ 1000 ∧ d + 1 - 1 + It.deps sub ≤ 20 ∧ fineB sub = true
          · rw [p1 hs, if_pos rfl]
            obtain ⟨q1, q2⟩ := (ih r (by omega) d (m + It.cnts sub) hd hs.1 (by omega)).1 h20
            have e3 : m + (It.cnts sub + It.cnts r + 1 - (r.length + 1)) = m + It.cnts sub + (It.cnts r - r.length) := by omega
            rw [e3]
            obtain ⟨s1, s2, s3⟩ := hs
            refine ⟨fun h => q1 ⟨h.1, by omega, h.2.2.2⟩, fun h => q2 fun k => h ⟨k.1, by omega, s3, k.2.2⟩⟩
          · rw [p2 hs, if_neg (by simp)]
            refine ⟨fun h => absurd ⟨by omega, by omega, h.2.2.1⟩ hs, fun _ => rfl⟩
    refine ⟨h1 m hm, ?_⟩
    have hp := It.deps_pos l
    by_cases hs : d ≤ 20 ∧ m + l.length ≤ 1000 ∧ lsOk l = true
    · obtain ⟨s1, s2, s3⟩ := hs
      have e1 : stepM (Int.ofNat m) d l = (Int.ofNat (m + l.length), true) := by rw [stepM_small (by omega), decide_eq_true s1, decide_eq_true s2, s3]; rfl
      rw [runI_tt (by rw [e1]), e1, if_neg (by omega)]
      obtain ⟨q1, q2⟩ := h1 (m + l.length) s2 s1
      have e3 : m + l.length + (It.cnts l - l.length) = m + It.cnts l := by omega
      rw [e3] at q1 q2
      unfold fineB
      rw [s3, Bool.true_and]
      exact ⟨q1, q2⟩
    · have e1 : (stepM (Int.ofNat m) d l).2 = false := by
        cases h : (stepM (Int.ofNat m) d l).2 with
        | false => rfl
        | true =>
          exfalso
          rw [stepM_small (by omega)] at h
          simp only [Bool.and_eq_true, decide_eq_true_eq] at h
          exact hs h
      rw [runI_ff e1]
      refine ⟨fun h => absurd ⟨by omega, by omega, ?_⟩ hs, fun _ => rfl⟩
      have := h.2.2
      unfold fineB at this
      rw [Bool.and_eq_true] at this
      exact this.1
end Go.EV

/- Patterns: great ones, and parts of one. -/
namespace Go.EV
theorem wordB_le {s : List Nat} (h : wordB s = true) : s.length ≤ 64 := by
  by_cases hl : s.length ≤ 64
  · exact hl
  · rw [wordB_len (by omega)] at h; cases h
theorem valB_le {k n : Int} {s : List Nat} (h : valB k n s = true) : s.length ≤ 1000 := by
  unfold valB at h
  split at h
  · simp at h; simp [h]
  split at h
  · simp at h; simp [h.1]
  split at h
  · simp at h; omega
  split at h
  · simp at h; simp [h.1]
  split at h
  · simp at h; have := wordB_le h.2; omega
  · cases h
theorem one_short {w : Bool} {a : List Nat} {b : Bool} {li : Int} {h : Bool} {dk dn : Int} {ds : List Nat} {n : Bool} {m : Nat} {r : Int} (e : oneB w a b li h dk dn ds n m r = true) : a.length ≤ 64 ∧ ds.length ≤ 1000 ∧ (n = false → m = 0) := by
  unfold oneB at e
  split at e
  · simp at e; simp [e]
  split at e
  · cases e
  split at e
  · cases e
  rename_i h1 h2 h3
  have ha : wordB a = true := by
    cases hw : wordB a with
    | true => rfl
    | false => exact absurd (.inl hw) h3
  refine ⟨wordB_le ha, ?_, fun hn => ?_⟩
  · split at e
    · exact valB_le e
    · simp at e; simp [e]
  · by_cases hm : m = 0
    · exact hm
    · exact absurd (.inr (.inr (.inr (.inr (.inr ⟨hn, by omega⟩))))) h3
theorem fine_all {l : List It} (h : fineB l = true) : ∀ x, x ∈ l → x.one = true ∧ x.fin = true := fun x hx => by
  obtain ⟨i, hi⟩ := List.getElem?_of_mem hx
  have := fineB_iff.1 h i x hi
  exact ⟨this.1, this.2.2⟩
def capW (d : Nat) : Int := 300 * (62 - Int.ofNat d) + 1000
theorem wgh_le : ∀ (n : Nat) (l : List It), SizeOf.sizeOf l < n → ∀ (d : Nat) (m : Int), d ≤ 60 → (∀ x, x ∈ l → x.one = true ∧ x.fin = true) → 0 ≤ m → m ≤ capW d → 0 ≤ wgh l d m ∧ wgh l d m ≤ capW d ∧ (wgh l d m ≤ 200 → m + Int.ofNat (It.cnts l) ≤ wgh l d m) := by
  intro n
  induction n with
  | zero => intro l h; omega
  | succ n ih =>
    intro l hn d m hd hok h0 hm
    by_cases hm2 : m ≤ 200
    · cases l with
      | nil => rw [wgh]; exact ⟨h0, hm, fun _ => by simp [It.cnts]⟩
      | cons x r =>
        obtain ⟨w, a, b, li, hh, dk, dn, ds, nn, sub, q⟩ := x
        simp only [List.cons.sizeOf_spec, It.mk.sizeOf_spec] at hn
        obtain ⟨x1, x2⟩ := hok _ (List.mem_cons_self ..)
        obtain ⟨s1, s2, s3⟩ := one_short (show oneB w a b li hh dk dn ds nn sub.length q = true from x1)
        rw [wgh, if_pos hm2]
        have ea : (Int.ofNat a.length).tdiv 50 = Int.ofNat (a.length / 50) := rfl
        have ed : (Int.ofNat ds.length).tdiv 50 = Int.ofNat (ds.length / 50) := rfl
        rw [ea, ed]
        have la : a.length / 50 ≤ 1 := by omega
        have ld : ds.length / 50 ≤ 20 := by omega
        have hws : ∃ ws : Int, (if 60 < d + 1 then 1000 else wgh sub (d + 1) 0) = ws ∧ 0 ≤ ws ∧ ws + 222 ≤ capW d ∧ (ws ≤ 200 → Int.ofNat (It.mk w a b li hh dk dn ds nn sub q).cnt ≤ ws) := by
          split
          · refine ⟨_, rfl, by omega, by unfold capW; simp; omega, fun h => by omega⟩
          · have hsub : ∀ y, y ∈ sub → y.one = true ∧ y.fin = true := by
              cases nn with
              | false =>
                have := List.eq_nil_of_length_eq_zero (s3 rfl)
                subst this
                intro y hy
                cases hy
              | true => exact fine_all (by simpa [It.fin, fineB] using x2)
            obtain ⟨i1, i2, i3⟩ := ih sub (by omega) (d + 1) 0 (by omega) hsub (Int.le_refl _) (by unfold capW; simp; omega)
            refine ⟨_, rfl, i1, by unfold capW at i2 ⊢; simp at i2 ⊢; omega, fun h => ?_⟩
            have i3 := i3 h
            cases nn with
            | false => simp [It.cnt]; exact i1
            | true => simp [It.cnt] at i3 ⊢; exact i3
        obtain ⟨ws, e, w0, w1, w2⟩ := hws
        rw [e]
        have hcd : capW d < 100000 := by unfold capW; simp; omega
        have la' : Int.ofNat (a.length / 50) ≤ 1 := by simp; omega
        have ld' : Int.ofNat (ds.length / 50) ≤ 20 := by simp; omega
        have la0 : 0 ≤ Int.ofNat (a.length / 50) := Int.natCast_nonneg _
        have ld0 : 0 ≤ Int.ofNat (ds.length / 50) := Int.natCast_nonneg _
        generalize Int.ofNat (a.length / 50) = A at la' la0 ⊢
        generalize Int.ofNat (ds.length / 50) = B at ld' ld0 ⊢
        rw [wrap_small (z := m + 1) (by omega) (by omega), wrap_small (z := A) (by omega) (by omega), wrap_small (z := m + 1 + A) (by omega) (by omega), wrap_small (z := B) (by omega) (by omega), wrap_small (z := m + 1 + A + B) (by omega) (by omega), wrap_small (z := m + 1 + A + B + ws) (by omega) (by omega)]
        obtain ⟨r1, r2, r3⟩ := ih r (by omega) d (m + 1 + A + B + ws) hd (fun y hy => hok y (List.mem_cons_of_mem _ hy)) (by omega) (by omega)
        refine ⟨r1, r2, fun h => ?_⟩
        have r3 := r3 h
        have hr0 : 0 ≤ Int.ofNat (It.cnts r) := Int.natCast_nonneg _
        have w2 := w2 (by omega)
        rw [It.cnts]
        have : Int.ofNat ((It.mk w a b li hh dk dn ds nn sub q).cnt + It.cnts r + 1) = Int.ofNat (It.mk w a b li hh dk dn ds nn sub q).cnt + Int.ofNat (It.cnts r) + 1 := by simp
        omega
    · rw [wgh_over (by omega)]
      exact ⟨h0, hm, fun h => absurd h hm2⟩
/-- What may be and is not great, is good. -/
theorem good_of {l : List It} (h : (runI stepM l 1 0).2 = true) (hw : wgh l 0 0 ≤ 200) : It.cnts l ≤ 1000 ∧ It.deps l ≤ 20 ∧ fineB l = true := by
  obtain ⟨h1, h2⟩ := (run_fine _ l (Nat.lt_succ_self _) 1 0 (Nat.le_refl _)).2 h
  have := (wgh_le _ l (Nat.lt_succ_self _) 0 0 (by omega) (fine_all h1) (Int.le_refl _) (by unfold capW; simp)).2.2 hw
  simp at this
  exact ⟨by omega, by omega, h1⟩
/-! ## Parts -/
theorem sub_cnts {t l : List It} (h : t.Sublist l) : It.cnts t ≤ It.cnts l := by
  induction h with
  | slnil => exact Nat.le_refl _
  | cons x _ ih => rw [It.cnts]; omega
  | cons_cons x _ ih => rw [It.cnts, It.cnts]; omega
theorem sub_deps {t l : List It} (h : t.Sublist l) : It.deps t ≤ It.deps l := by
  induction h with
  | slnil => exact Nat.le_refl _
  | cons x _ ih => rw [It.deps]; omega
  | cons_cons x _ ih => rw [It.deps, It.deps]; omega
theorem sub_fins {t l : List It} (h : t.Sublist l) (hl : It.fins l = true) : It.fins t = true := by
  induction h with
  | slnil => exact hl
  | cons x _ ih => rw [It.fins, Bool.and_eq_true] at hl; exact ih hl.2
  | cons_cons x _ ih => rw [It.fins, Bool.and_eq_true] at hl ⊢; exact ⟨hl.1, ih hl.2⟩
theorem sub_sms {t l : List It} (h : t.Sublist l) (hl : It.sms l) : It.sms t := by
  induction h with
  | slnil => exact hl
  | cons x _ ih => exact ih hl.2
  | cons_cons x _ ih => exact ⟨hl.1, ih hl.2⟩
theorem lsOk_pw {l : List It} : lsOk l = true ↔ (∀ x, x ∈ l → x.one = true) ∧ l.Pairwise fun y x => x.like y = false := by
  rw [lsOk_iff, List.pairwise_iff_getElem]
  constructor
  · intro h
    refine ⟨fun x hx => ?_, fun i j hi hj hij => ?_⟩
    · obtain ⟨i, hi⟩ := List.getElem?_of_mem hx
      exact (h i x hi).1
    · exact (h j _ (List.getElem?_eq_getElem hj)).2 i _ hij (List.getElem?_eq_getElem hi)
  · rintro ⟨h1, h2⟩ i x hx
    refine ⟨h1 x (List.mem_of_getElem? hx), fun k y hk hy => ?_⟩
    obtain ⟨a1, rfl⟩ := List.getElem?_eq_some_iff.1 hx
    obtain ⟨a2, rfl⟩ := List.getElem?_eq_some_iff.1 hy
    exact h2 k i a2 a1 hk
theorem sub_fine {t l : List It} (h : t.Sublist l) (hl : fineB l = true) : fineB t = true := by
  unfold fineB at hl ⊢
  rw [Bool.and_eq_true, lsOk_pw] at hl ⊢
  exact ⟨⟨fun x hx => hl.1.1 x (h.subset hx), hl.1.2.sublist h⟩, sub_fins h hl.2⟩
/-- The item that holds the rest. -/
abbrev holdr (t : List It) : It := .mk false [97, 47, 98] false 0 false 0 0 [] true t 0
theorem holdr_fine {t : List It} : fineB [holdr t] = fineB t := by
  have h1 : (holdr t).one = true := by
    have : wordB [97, 47, 98] = true := by rfl
    simp [holdr, It.one, oneB, this]
  have h2 : lsOk [holdr t] = true := lsOk_pw.2 ⟨fun x hx => by simp at hx; subst hx; exact h1, List.pairwise_singleton _ _⟩
  unfold fineB
  rw [h2, It.fins, It.fins]
  simp [holdr, It.fin]
theorem holdr_cnts {t : List It} : It.cnts [holdr t] = It.cnts t + 1 := by simp [holdr, It.cnts, It.cnt]
theorem holdr_deps {t : List It} : It.deps [holdr t] = It.deps t + 1 := by have := It.deps_pos t; simp [holdr, It.deps, It.dep]
/-- What the program says is what is good. -/
theorem run_good {l : List It} (hc : It.cnts l ≤ 1001) : (runI stepM l 1 0).2 = (decide (It.cnts l ≤ 1000) && (decide (It.deps l ≤ 20) && fineB l)) := by
  obtain ⟨h1, h2⟩ := (run_small _ l (Nat.lt_succ_self _) 1 0 (Nat.le_refl _) (by omega) (by omega)).2
  by_cases h : 0 + It.cnts l ≤ 1000 ∧ 1 - 1 + It.deps l ≤ 20 ∧ fineB l = true
  · have e := h1 h
    obtain ⟨q1, q2, q3⟩ := h
    rw [show (0 : Int) = Int.ofNat 0 from rfl, e, decide_eq_true (show It.cnts l ≤ 1000 by omega), decide_eq_true (show It.deps l ≤ 20 by omega), q3]
    rfl
  · have e := h2 h
    rw [show (0 : Int) = Int.ofNat 0 from rfl, e]
    symm
    rw [Bool.eq_false_iff]
    intro k
    simp only [Bool.and_eq_true, decide_eq_true_eq] at k
    exact h ⟨by omega, by omega, k.2.2⟩
end Go.EV

/- ShapeLess, whatever the pattern and whatever goes. -/
namespace Go.EV
set_option maxRecDepth 100000
def ck (b : Bool) : Int := bif b then 0 else 190
theorem l19 {E : Env} (h : Has E 19 F19.pure) {l : List It} {b : Bool} (h42 : FnC E 42 [.lst (It.avs l)] (.bool b)) : FnC E 19 [.lst (It.avs l)] (.int .i64 (ck b)) := by
  refine FnC.of h rfl (by kernel_rfl) (by kernel_rfl) ?_
  refine Pk.adv 8 (by kernel_rfl) ?_
  refine Pk.call0 (g := CX.c (AV.fn 42 [])) (args := [X3]) (k := 42) (caps := []) (as := [AV.lst (It.avs l)]) (vs := [AV.lst (It.avs l)]) (v := AV.bool b) (by kernel_rfl) (by kernel_rfl) (by kernel_rfl) (by kernel_rfl) (by kernel_rfl) (by kernel_rfl) (by kernel_rfl) (h42) ?_
  refine Pk.adv 2 (by kernel_rfl) ?_
  refine Pk.split p5 (!b) (by kernel_rfl) (fun h1 => ?_) (fun h1 => ?_)
  · refine Pk.adv 7 (by kernel_rfl) ?_
    refine Pk.fin (v' := AV.int IntKind.i64 190) (by kernel_rfl) (by kernel_rfl) (by kernel_rfl) ?_
    subst_vars; cases b <;> simp_all [ck]
  · refine Pk.adv 7 (by kernel_rfl) ?_
    refine Pk.fin (v' := AV.int IntKind.i64 0) (by kernel_rfl) (by kernel_rfl) (by kernel_rfl) ?_
    subst_vars; cases b <;> simp_all [ck]
/-- Which are gone, as data. -/
def gav (g : List Bool) : List (List AV) := g.map fun b => [AV.bool b]
theorem gav_at {g : List Bool} {i : Nat} {b : Bool} (h : g[i]? = some b) : (gav g)[i]? = some [.bool b] := by unfold gav; rw [List.getElem?_map, h]; rfl
theorem gav_len (g : List Bool) : (gav g).length = g.length := by unfold gav; rw [List.length_map]
theorem ck_zero (b : Bool) : (ck b = 0) = (b = true) := by cases b <;> simp [ck]
set_option maxHeartbeats 4000000 in
/-- The loop, and what is behind it. -/
theorem lp4 {E : Env} (h19 : ∀ t : List It, It.cnts t ≤ 1001 → t.length ≤ mx63 → It.sms t → FnC E 19 [.lst (It.avs t)] (.int .i64 (ck (decide (It.cnts t ≤ 1000) && (decide (It.deps t ≤ 20) && fineB t)))))
    (h20 : ∀ t : List It, (t.length = 1 ∧ It.cnts t ≤ 1001 ∨ It.cnts t ≤ 1000) → 1 + It.deps t ≤ 100 → t.length ≤ mx63 → It.sms t → FnC E 20 [.lst (It.avs t)] (.bool (decide (It.cnts t ≤ 1000) && (decide (It.deps t ≤ 20) && fineB t))))
    {l : List It} {g : List Bool} (hl : l.length ≤ mx63) (hs : It.sms l) (hc : It.cnts l ≤ 1000) (hd : It.deps l ≤ 20) (hf : fineB l = true) :
    ∀ (j i : Nat) (t : List It), i + j = l.length → t.Sublist (l.take i) →
      Pk E 0 ⟨[.code c4_10, .blk 0, .code (.seq c4_11 (.seq c4_12 (.seq c4_13 (.seq c4_14 .ret))))], .norm, fr F4 [(p0, .lst (It.avs l)), (p1, .lst (gav g)), (p5, .bool true), (p6, .own 53 44 (It.avs t)), (p7, .int .i64 (Int.ofNat i))], []⟩ (PR F4.pure (.bool true)) := by
  have hlc := It.len_cnts l
  intro j
  induction j with
  | zero =>
    intro i t hi ht
    have hlt : decide (Int.ofNat i < Int.ofNat (It.avs l).length) = false := by rw [It.len]; simp; omega
    have ht2 : t.Sublist l := ht.trans (List.take_sublist _ _)
    have c1 := sub_cnts ht2
    have c2 := sub_deps ht2
    have c3 := sub_fine ht2 hf
    have c4 := sub_sms ht2 hs
    have c5 := It.len_cnts t
    have hi63 : mx63 = 9223372036854775807 := rfl
    have g1 := h19 t (by omega) (by omega) c4
    have hx : It.sms [holdr t] := ⟨⟨by simp; omega, by simp, by omega, c4⟩, trivial⟩
    have g2 := h19 [holdr t] (by rw [holdr_cnts]; omega) (by simp; omega) hx
    have g3 := h20 [holdr t] (.inl ⟨rfl, by rw [holdr_cnts]; omega⟩) (by rw [holdr_deps]; omega) (by simp; omega) hx
    rw [decide_eq_true (show It.cnts t ≤ 1000 by omega), decide_eq_true (show It.deps t ≤ 20 by omega), c3] at g1
    generalize (decide (It.cnts [holdr t] ≤ 1000) && (decide (It.deps [holdr t] ≤ 20) && fineB [holdr t])) = bb at g2 g3
    clear h19 h20
    refine Pk.adv 9 (by kernel_rfl) ?_
    refine Pk.know p33 (decide (Int.ofNat i < (↑(List.length (It.avs l)) : Int))) false (by kernel_rfl) hlt ?_
    refine Pk.adv 16 (by kernel_rfl) ?_
    refine Pk.callF (g := CX.c (AV.fn 19 [])) (args := [X57]) (k := 19) (caps := []) (as := [AV.own 57 44
      [[AV.bool false, AV.str [97, 47, 98], AV.bool false, AV.int IntKind.i64 0, AV.bool false, AV.int IntKind.i64 0,
          AV.int IntKind.i64 0, AV.str [], AV.bool true, AV.lst (It.avs t), AV.int IntKind.i64 0]]]) (vs := [AV.lst
      [[AV.bool false, AV.str [97, 47, 98], AV.bool false, AV.int IntKind.i64 0, AV.bool false, AV.int IntKind.i64 0,
          AV.int IntKind.i64 0, AV.str [], AV.bool true, AV.lst (It.avs t), AV.int IntKind.i64 0]]]) (v := AV.int IntKind.i64 (ck bb)) (by kernel_rfl) (by kernel_rfl) (by kernel_rfl) (by kernel_rfl) (by kernel_rfl) (by kernel_rfl) (by kernel_rfl) (g2) ?_
    refine Pk.adv 6 (by kernel_rfl) ?_
    refine Pk.callF (g := CX.c (AV.fn 20 [])) (args := [X60]) (k := 20) (caps := []) (as := [AV.own 60 44
      [[AV.bool false, AV.str [97, 47, 98], AV.bool false, AV.int IntKind.i64 0, AV.bool false, AV.int IntKind.i64 0,
          AV.int IntKind.i64 0, AV.str [], AV.bool true, AV.lst (It.avs t), AV.int IntKind.i64 0]]]) (vs := [AV.lst
      [[AV.bool false, AV.str [97, 47, 98], AV.bool false, AV.int IntKind.i64 0, AV.bool false, AV.int IntKind.i64 0,
          AV.int IntKind.i64 0, AV.str [], AV.bool true, AV.lst (It.avs t), AV.int IntKind.i64 0]]]) (v := AV.bool bb) (by kernel_rfl) (by kernel_rfl) (by kernel_rfl) (by kernel_rfl) (by kernel_rfl) (by kernel_rfl) (by kernel_rfl) (g3) ?_
    refine Pk.adv 7 (by kernel_rfl) ?_
    refine Pk.call0 (g := CX.c (AV.fn 19 [])) (args := [X64]) (k := 19) (caps := []) (as := [AV.lst (It.avs t)]) (vs := [AV.lst (It.avs t)]) (v := AV.int IntKind.i64 (ck (true && (true && true)))) (by kernel_rfl) (by kernel_rfl) (by kernel_rfl) (by kernel_rfl) (by kernel_rfl) (by kernel_rfl) (by kernel_rfl) (g1) ?_
    refine Pk.adv 11 (by kernel_rfl) ?_
    refine Pk.fin (v' := AV.bool (decide (ck bb = 0) == bb)) (by kernel_rfl) (by kernel_rfl) (by kernel_rfl) ?_
    cases bb <;> rfl
  | succ j ihj =>
    intro i t hi ht
    have hlt : decide (Int.ofNat i < Int.ofNat (It.avs l).length) = true := by rw [It.len]; simp; omega
    obtain ⟨x, hx⟩ : ∃ x, l[i]? = some x := ⟨_, List.getElem?_eq_getElem (by omega)⟩
    have hA := ihj (i + 1) t (by omega) (by rw [List.take_add_one]; exact ht.trans (List.sublist_append_left _ _))
    have hB := ihj (i + 1) (t ++ [x]) (by omega) (by rw [List.take_add_one, hx]; exact ht.append (List.Sublist.refl _))
    obtain ⟨w, a, b, li, hh, dk, dn, ds, nn, sub, r⟩ := x
    have hat := It.at hx
    have ea : It.avs (t ++ [It.mk w a b li hh dk dn ds nn sub r]) = It.avs t ++ [itv w a b li hh dk dn ds nn (.lst (It.avs sub)) r] := by rw [It.avs_map, It.avs_map, List.map_append]; rfl
    rw [ea] at hB
    have hh1 := It.avs_head t
    have hm : (It.avs t).length + 1 ≤ mxLen := by
      have := ht.length_le
      rw [List.length_take] at this
      rw [It.len]; unfold mxLen; omega
    have hi63 : mx63 = 9223372036854775807 := rfl
    clear ihj h19 h20
    by_cases hg : i < g.length
    · have e1 : decide (Int.ofNat (gav g).length ≤ Int.ofNat i) = false := by rw [gav_len]; simp; omega
      obtain ⟨q, hq⟩ : ∃ q, g[i]? = some q := ⟨_, List.getElem?_eq_getElem hg⟩
      have hga := gav_at hq
      cases q with
      | false =>
        have hq2 : (!false) = true := rfl
        refine Pk.adv 9 (by kernel_rfl) ?_
        refine Pk.know p33 (decide (Int.ofNat i < (↑(List.length (It.avs l)) : Int))) true (by kernel_rfl) hlt ?_
        refine Pk.adv 11 (by kernel_rfl) ?_
        refine Pk.know p40 (decide ((↑(List.length (gav g)) : Int) ≤ Int.ofNat i)) false (by kernel_rfl) e1 ?_
        refine Pk.adv 2 (by kernel_rfl) ?_
        refine Pk.iaddr (es := 1) (x := X41) (i := X42) (l := gav g) (q := IntKind.i64) (n := i) (c := [AV.bool false]) (by kernel_rfl) (by kernel_rfl) (by kernel_rfl) (by kernel_rfl) hga (by kernel_rfl) ?_
        refine Pk.adv 9 (by kernel_rfl) ?_
        refine Pk.iaddr (es := 11) (x := X48) (i := X49) (l := It.avs l) (q := IntKind.i64) (n := i) (c := [AV.bool w, AV.str a, AV.bool b, AV.int IntKind.i64 li, AV.bool hh, AV.int IntKind.i64 dk, AV.int IntKind.i64 dn,
        AV.str ds, AV.bool nn, AV.lst (It.avs sub), AV.int IntKind.i64 r]) (by kernel_rfl) (by kernel_rfl) (by kernel_rfl) (by kernel_rfl) hat (by kernel_rfl) ?_
        refine Pk.adv 2 (by kernel_rfl) ?_
        refine Pk.app1 (ty := 44) (es := 11) (a := X47) (x := X52) (tk := some (53, 44)) (l := It.avs t) (new := [[AV.bool w, AV.str a, AV.bool b, AV.int IntKind.i64 li, AV.bool hh, AV.int IntKind.i64 dk, AV.int IntKind.i64 dn,
          AV.str ds, AV.bool nn, AV.lst (It.avs sub), AV.int IntKind.i64 r]]) 53 (by kernel_rfl) (by kernel_rfl) (by kernel_rfl) (by kernel_rfl) (by kernel_rfl) hh1 hq2 hm ?_
        refine Pk.adv 8 (by kernel_rfl) ?_
        -- LOOP
        refine Pk.inc p7 i (by kernel_rfl) (by omega) ?_
        refine Pk.kn F4 [.code c4_10, .blk 0, .code (.seq c4_11 (.seq c4_12 (.seq c4_13 (.seq c4_14 .ret))))] [] [(p0, .lst (It.avs l)), (p1, .lst (gav g)), (p5, .bool true), (p6, .own 53 44 (It.avs t ++ [itv w a b li hh dk dn ds nn (.lst (It.avs sub)) r])), (p7, .int .i64 (Int.ofNat (i + 1)))] (by kernel_rfl) (by kernel_rfl) (by kernel_rfl) (by kernel_rfl) (by kernel_rfl) (by kernel_rfl) ?_
        exact hB
      | true =>
        refine Pk.adv 9 (by kernel_rfl) ?_
        refine Pk.know p33 (decide (Int.ofNat i < (↑(List.length (It.avs l)) : Int))) true (by kernel_rfl) hlt ?_
        refine Pk.adv 11 (by kernel_rfl) ?_
        refine Pk.know p40 (decide ((↑(List.length (gav g)) : Int) ≤ Int.ofNat i)) false (by kernel_rfl) e1 ?_
        refine Pk.adv 2 (by kernel_rfl) ?_
        refine Pk.iaddr (es := 1) (x := X41) (i := X42) (l := gav g) (q := IntKind.i64) (n := i) (c := [AV.bool true]) (by kernel_rfl) (by kernel_rfl) (by kernel_rfl) (by kernel_rfl) hga (by kernel_rfl) ?_
        refine Pk.adv 12 (by kernel_rfl) ?_
        -- LOOP
        refine Pk.inc p7 i (by kernel_rfl) (by omega) ?_
        refine Pk.kn F4 [.code c4_10, .blk 0, .code (.seq c4_11 (.seq c4_12 (.seq c4_13 (.seq c4_14 .ret))))] [] [(p0, .lst (It.avs l)), (p1, .lst (gav g)), (p5, .bool true), (p6, .own 53 44 (It.avs t)), (p7, .int .i64 (Int.ofNat (i + 1)))] (by kernel_rfl) (by kernel_rfl) (by kernel_rfl) (by kernel_rfl) (by kernel_rfl) (by kernel_rfl) ?_
        exact hA
    · have e1 : decide (Int.ofNat (gav g).length ≤ Int.ofNat i) = true := by rw [gav_len]; simp; omega
      refine Pk.adv 9 (by kernel_rfl) ?_
      refine Pk.know p33 (decide (Int.ofNat i < (↑(List.length (It.avs l)) : Int))) true (by kernel_rfl) hlt ?_
      refine Pk.adv 11 (by kernel_rfl) ?_
      refine Pk.know p40 (decide ((↑(List.length (gav g)) : Int) ≤ Int.ofNat i)) true (by kernel_rfl) e1 ?_
      refine Pk.adv 12 (by kernel_rfl) ?_
      refine Pk.iaddr (es := 11) (x := X48) (i := X49) (l := It.avs l) (q := IntKind.i64) (n := i) (c := [AV.bool w, AV.str a, AV.bool b, AV.int IntKind.i64 li, AV.bool hh, AV.int IntKind.i64 dk, AV.int IntKind.i64 dn,
      AV.str ds, AV.bool nn, AV.lst (It.avs sub), AV.int IntKind.i64 r]) (by kernel_rfl) (by kernel_rfl) (by kernel_rfl) (by kernel_rfl) hat (by kernel_rfl) ?_
      refine Pk.adv 2 (by kernel_rfl) ?_
      refine Pk.app1 (ty := 44) (es := 11) (a := X47) (x := X52) (tk := some (53, 44)) (l := It.avs t) (new := [[AV.bool w, AV.str a, AV.bool b, AV.int IntKind.i64 li, AV.bool hh, AV.int IntKind.i64 dk, AV.int IntKind.i64 dn,
        AV.str ds, AV.bool nn, AV.lst (It.avs sub), AV.int IntKind.i64 r]]) 53 (by kernel_rfl) (by kernel_rfl) (by kernel_rfl) (by kernel_rfl) (by kernel_rfl) hh1 (by kernel_rfl) hm ?_
      refine Pk.adv 8 (by kernel_rfl) ?_
      -- LOOP
      refine Pk.inc p7 i (by kernel_rfl) (by omega) ?_
      refine Pk.kn F4 [.code c4_10, .blk 0, .code (.seq c4_11 (.seq c4_12 (.seq c4_13 (.seq c4_14 .ret))))] [] [(p0, .lst (It.avs l)), (p1, .lst (gav g)), (p5, .bool true), (p6, .own 53 44 (It.avs t ++ [itv w a b li hh dk dn ds nn (.lst (It.avs sub)) r])), (p7, .int .i64 (Int.ofNat (i + 1)))] (by kernel_rfl) (by kernel_rfl) (by kernel_rfl) (by kernel_rfl) (by kernel_rfl) (by kernel_rfl) ?_
      exact hB
set_option maxHeartbeats 4000000 in
theorem w4 {E : Env} (h4 : Has E 4 F4.pure) (h17 : ∀ H, Cl E (.fn 17 []) [] H (.bool true) H) (h18 : Has E 18 F18.pure) (h48 : Has E 48 F48.pure) (h19 : Has E 19 F19.pure) (h20 : Has E 20 F20.pure) (h49 : Has E 49 F49.pure) (h50 : Has E 50 F50.pure) (h84 : Has E 84 F84.pure) (h121 : Has E 121 F121.pure) (h122 : Has E 122 F122.pure) (h159 : Has E 159 F159.pure) (h160 : Has E 160 F160.pure)
    (h42 : Has E 42 F42.pure) (h115 : Has E 115 F115) (h73 : Has E 73 F73) (h74 : Has E 74 F74.pure) (h97 : Has E 97 F97) (h107 : Has E 107 F107) (h116 : Has E 116 F116.pure) (h154 : Has E 154 F154) (h75 : Has E 75 F75.open) (h117 : Has E 117 F117.open) (h76 : Has E 76 F76) (h77 : Has E 77 F77.pure) {l : List It} (hl : l.length ≤ mx63) (hs : It.sms l) (g : List Bool) :
    FnC E 4 [.lst (It.avs l), .lst (gav g)] (.bool true) := by
  have f42 : ∀ t : List It, t.length ≤ mx63 → It.sms t → FnC E 42 [.lst (It.avs t)] (.bool (runI stepM t 1 0).2) := fun t ht hts => FnC.old h42 rfl rfl fun H => l42 h42 h115 h73 h74 h97 h107 h116 h154 h75 h117 h76 h77 ht hts H
  have f19 : ∀ t : List It, It.cnts t ≤ 1001 → t.length ≤ mx63 → It.sms t → FnC E 19 [.lst (It.avs t)] (.int .i64 (ck (decide (It.cnts t ≤ 1000) && (decide (It.deps t ≤ 20) && fineB t)))) := fun t hc ht hts => by
    have := f42 t ht hts
    rw [run_good hc] at this
    exact l19 h19 this
  have f20 := fun (t : List It) (hc : t.length = 1 ∧ It.cnts t ≤ 1001 ∨ It.cnts t ≤ 1000) (hd : 1 + It.deps t ≤ 100) (ht : t.length ≤ mx63) (hts : It.sms t) => l20 h20 h49 h50 h84 h121 h122 h159 h160 t hc hd ht hts
  have e18 := l18 h18 h48 l hl hs
  have e19 := l19 h19 (f42 l hl hs)
  refine FnC.of h4 rfl (by kernel_rfl) (by kernel_rfl) ?_
  by_cases hw : 200 < wgh l 0 0
  · rw [if_pos hw] at e18
    clear f42 f19 f20 e19
    refine Pk.adv 6 (by kernel_rfl) ?_
    refine Pk.callR (g := CX.c (AV.fn 17 [])) (args := []) (k := 17) (caps := []) (as := []) (v := AV.bool true) (by kernel_rfl) (by kernel_rfl) (by kernel_rfl) (by kernel_rfl) (by kernel_rfl) (by kernel_rfl) (h17) ?_
    refine Pk.adv 6 (by kernel_rfl) ?_
    refine Pk.call0 (g := CX.c (AV.fn 18 [])) (args := [X12]) (k := 18) (caps := []) (as := [AV.lst (It.avs l)]) (vs := [AV.lst (It.avs l)]) (v := AV.int IntKind.i64 1) (by kernel_rfl) (by kernel_rfl) (by kernel_rfl) (by kernel_rfl) (by kernel_rfl) (by kernel_rfl) (by kernel_rfl) (e18) ?_
    refine Pk.adv 24 (by kernel_rfl) ?_
    refine Pk.fin (v' := AV.bool true) (by kernel_rfl) (by kernel_rfl) (by kernel_rfl) ?_
    rfl
  · rw [if_neg hw] at e18
    cases hr : (runI stepM l 1 0).2 with
    | false =>
      rw [hr] at e19
      clear f42 f19 f20
      refine Pk.adv 6 (by kernel_rfl) ?_
      refine Pk.callR (g := CX.c (AV.fn 17 [])) (args := []) (k := 17) (caps := []) (as := []) (v := AV.bool true) (by kernel_rfl) (by kernel_rfl) (by kernel_rfl) (by kernel_rfl) (by kernel_rfl) (by kernel_rfl) (h17) ?_
      refine Pk.adv 6 (by kernel_rfl) ?_
      refine Pk.call0 (g := CX.c (AV.fn 18 [])) (args := [X12]) (k := 18) (caps := []) (as := [AV.lst (It.avs l)]) (vs := [AV.lst (It.avs l)]) (v := AV.int IntKind.i64 0) (by kernel_rfl) (by kernel_rfl) (by kernel_rfl) (by kernel_rfl) (by kernel_rfl) (by kernel_rfl) (by kernel_rfl) (e18) ?_
      refine Pk.adv 3 (by kernel_rfl) ?_
      refine Pk.call0 (g := CX.c (AV.fn 19 [])) (args := [X16]) (k := 19) (caps := []) (as := [AV.lst (It.avs l)]) (vs := [AV.lst (It.avs l)]) (v := AV.int IntKind.i64 (ck false)) (by kernel_rfl) (by kernel_rfl) (by kernel_rfl) (by kernel_rfl) (by kernel_rfl) (by kernel_rfl) (by kernel_rfl) (e19) ?_
      refine Pk.adv 20 (by kernel_rfl) ?_
      refine Pk.fin (v' := AV.bool true) (by kernel_rfl) (by kernel_rfl) (by kernel_rfl) ?_
      rfl
    | true =>
      rw [hr] at e19
      obtain ⟨q1, q2, q3⟩ := good_of hr (by omega)
      have hlp := lp4 f19 f20 (g := g) hl hs q1 q2 q3 l.length 0 [] (by omega) (List.nil_sublist _)
      clear f42 f19 f20
      by_cases hg : (1000 : Int) < Int.ofNat (gav g).length
      · have hg2 : decide ((1000 : Int) < Int.ofNat (gav g).length) = true := decide_eq_true hg
        refine Pk.adv 6 (by kernel_rfl) ?_
        refine Pk.callR (g := CX.c (AV.fn 17 [])) (args := []) (k := 17) (caps := []) (as := []) (v := AV.bool true) (by kernel_rfl) (by kernel_rfl) (by kernel_rfl) (by kernel_rfl) (by kernel_rfl) (by kernel_rfl) (h17) ?_
        refine Pk.adv 6 (by kernel_rfl) ?_
        refine Pk.call0 (g := CX.c (AV.fn 18 [])) (args := [X12]) (k := 18) (caps := []) (as := [AV.lst (It.avs l)]) (vs := [AV.lst (It.avs l)]) (v := AV.int IntKind.i64 0) (by kernel_rfl) (by kernel_rfl) (by kernel_rfl) (by kernel_rfl) (by kernel_rfl) (by kernel_rfl) (by kernel_rfl) (e18) ?_
        refine Pk.adv 3 (by kernel_rfl) ?_
        refine Pk.call0 (g := CX.c (AV.fn 19 [])) (args := [X16]) (k := 19) (caps := []) (as := [AV.lst (It.avs l)]) (vs := [AV.lst (It.avs l)]) (v := AV.int IntKind.i64 (ck true)) (by kernel_rfl) (by kernel_rfl) (by kernel_rfl) (by kernel_rfl) (by kernel_rfl) (by kernel_rfl) (by kernel_rfl) (e19) ?_
        refine Pk.adv 8 (by kernel_rfl) ?_
        refine Pk.know p25 (decide (1000 < (↑(List.length (gav g)) : Int))) true (by kernel_rfl) hg2 ?_
        refine Pk.adv 12 (by kernel_rfl) ?_
        refine Pk.fin (v' := AV.bool true) (by kernel_rfl) (by kernel_rfl) (by kernel_rfl) ?_
        rfl
      · have hg2 : decide ((1000 : Int) < Int.ofNat (gav g).length) = false := decide_eq_false hg
        refine Pk.adv 6 (by kernel_rfl) ?_
        refine Pk.callR (g := CX.c (AV.fn 17 [])) (args := []) (k := 17) (caps := []) (as := []) (v := AV.bool true) (by kernel_rfl) (by kernel_rfl) (by kernel_rfl) (by kernel_rfl) (by kernel_rfl) (by kernel_rfl) (h17) ?_
        refine Pk.adv 6 (by kernel_rfl) ?_
        refine Pk.call0 (g := CX.c (AV.fn 18 [])) (args := [X12]) (k := 18) (caps := []) (as := [AV.lst (It.avs l)]) (vs := [AV.lst (It.avs l)]) (v := AV.int IntKind.i64 0) (by kernel_rfl) (by kernel_rfl) (by kernel_rfl) (by kernel_rfl) (by kernel_rfl) (by kernel_rfl) (by kernel_rfl) (e18) ?_
        refine Pk.adv 3 (by kernel_rfl) ?_
        refine Pk.call0 (g := CX.c (AV.fn 19 [])) (args := [X16]) (k := 19) (caps := []) (as := [AV.lst (It.avs l)]) (vs := [AV.lst (It.avs l)]) (v := AV.int IntKind.i64 (ck true)) (by kernel_rfl) (by kernel_rfl) (by kernel_rfl) (by kernel_rfl) (by kernel_rfl) (by kernel_rfl) (by kernel_rfl) (e19) ?_
        refine Pk.adv 8 (by kernel_rfl) ?_
        refine Pk.know p25 (decide (1000 < (↑(List.length (gav g)) : Int))) false (by kernel_rfl) hg2 ?_
        refine Pk.adv 16 (by kernel_rfl) ?_
        -- LOOP
        refine Pk.nilF p6 53 44 (by kernel_rfl) (by kernel_rfl) ?_
        refine Pk.kn F4 [.code c4_10, .blk 0, .code (.seq c4_11 (.seq c4_12 (.seq c4_13 (.seq c4_14 .ret))))] [] [(p0, .lst (It.avs l)), (p1, .lst (gav g)), (p5, .bool true), (p6, .own 53 44 (It.avs [])), (p7, .int .i64 (Int.ofNat 0))] (by kernel_rfl) (by kernel_rfl) (by kernel_rfl) (by kernel_rfl) (by kernel_rfl) (by kernel_rfl) ?_
        exact hlp
end Go.EV
