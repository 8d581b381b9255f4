/- A region that draws its order, by states: calls one behind the other, and allocs anywhere between. No program in sight. -/
import Derived.Deep.RegionHeld3
namespace Go.Proofs.Ytljepnonigjcbaa
open Go
set_option linter.unusedVariables false
section
variable {P : Program} {md : Region.Mode} {ops : Array Oper} {Q : Exit → Act → World → Prop} {S : World → Prop}

theorem anyH_states {σ : Type} (lst : σ → Array Bool) (I : σ → Act → World → Prop) (nx : σ → List (Nat × σ)) (fuel : σ → Nat)
    (hr : ∀ s, nx s ≠ [] → Region.ready md ops (lst s) = (nx s).map (·.1))
    (hs : ∀ s, ∀ p ∈ nx s, (lst s).setIfInBounds p.1 true = lst p.2 ∧ fuel s = fuel p.2 + 1)
    (step : ∀ s, ∀ p ∈ nx s, ∀ a w, I s a w → wpOp P ops Q p.1 (fun a' w' => S w' ∧ I p.2 a' w') a w)
    (fin : ∀ s, nx s = [] → ∀ a w, I s a w → wpAnyH P md ops Q S (fuel s) (lst s) a w) :
    ∀ (n : Nat) s, fuel s = n → ∀ a w, I s a w → wpAnyH P md ops Q S (fuel s) (lst s) a w := by
  intro n
  induction n with
  | zero =>
    intro s hn a w h
    refine fin s ?_ a w h
    cases hx : nx s with
    | nil => rfl
    | cons p l => have := (hs s p (by rw [hx]; simp)).2; omega
  | succ n ih =>
    intro s hn a w h
    by_cases hx : nx s = []
    · exact fin s hx a w h
    · rw [hn]
      refine wpAnyH_all (hr s hx) (by simpa using hx) (fun i hi => ?_)
      obtain ⟨p, hp, rfl⟩ := List.mem_map.1 hi
      obtain ⟨h1, h2⟩ := hs s p hp
      refine wpOp_mono (fun a' w' h' => ⟨h'.1, ?_⟩) (step s p hp a w h)
      rw [h1]
      have h3 := ih p.2 (by omega) a' w' h'.2
      rwa [show fuel p.2 = n by omega] at h3
end
section
variable {P : Program} {md : Region.Mode} {ops : Array Oper} {Q : Exit → Act → World → Prop} {S : World → Prop}
/-- take number i first; the frame behind it is written out -/
theorem anyH_take {i d : Nat} {oi : Oper} {v : Value} {fuel : Nat} {listed : Array Bool} {a a2 : Act} {w : World} (hi : ops[i]? = some oi) (hd : oi.dst = some d)
    (hs : Region.noSelect ops = true) (hf : Region.free md ops listed i = true) (hr : (Region.ready md ops listed).contains i = true)
    (hQ : ∀ c a w, Q (.panic c) (a.put oi.dst v) w → Q (.panic c) a w) (hy : YieldsIf P ops S oi v a) (hS : S w) (ha : a.put (some d) v = a2)
    (h : wpAnyH P md ops Q S fuel (listed.setIfInBounds i true) a2 w) : wpAnyH P md ops Q S (fuel + 1) listed a w := by
  refine wpAnyH_take hi hs hf hr hQ hy hS ?_
  rw [hd, ha]; exact h
end
section
variable {P : Program} {md : Region.Mode} {ops : Array Oper} {Q : Exit → Act → World → Prop} {S : World → Prop}
/-- calls one behind the other, and one alloc anywhere among them (or behind them) -/
theorem anyH_n1 (N : Nat) (cs : Nat → Nat) (al F : Nat) (lst : Nat → Bool → Array Bool) (I : Nat → Bool → Act → World → Prop)
    (hr : ∀ c, c < N → ∀ y, Region.ready md ops (lst c y) = cs c :: (if y = true then [] else [al]))
    (hs : ∀ c, c < N → ∀ y, (lst c y).setIfInBounds (cs c) true = lst (c + 1) y)
    (ht : ∀ c, c < N → (lst c false).setIfInBounds al true = lst c true)
    (s1 : ∀ c, c < N → ∀ y a w, I c y a w → wpOp P ops Q (cs c) (fun a' w' => S w' ∧ I (c + 1) y a' w') a w)
    (t1 : ∀ c, c < N → ∀ a w, I c false a w → wpOp P ops Q al (fun a' w' => S w' ∧ I c true a' w') a w)
    (fin : ∀ y a w, I N y a w → wpAnyH P md ops Q S (F + if y = true then 0 else 1) (lst N y) a w) :
    ∀ d c, c + d = N → ∀ y a w, I c y a w → wpAnyH P md ops Q S (F + d + if y = true then 0 else 1) (lst c y) a w := by
  intro d
  induction d with
  | zero => intro c hc y a w h; obtain rfl : c = N := (by omega); exact fin y a w h
  | succ d ih =>
    intro c hc
    have ih' := ih (c + 1) (by omega)
    have both : ∀ a w, I c true a w → wpAnyH P md ops Q S (F + (d + 1) + 0) (lst c true) a w := fun a w h => by
      refine wpAnyH_all (hr c (by omega) true) (by simp) (fun i hi => ?_)
      simp at hi
      subst hi
      refine wpOp_mono (fun a' w' h' => ⟨h'.1, ?_⟩) (s1 c (by omega) true a w h)
      rw [hs c (by omega)]
      exact ih' true a' w' h'.2
    intro y a w h
    cases y with
    | true => exact both a w h
    | false =>
      show wpAnyH P md ops Q S (F + (d + 1) + 1) (lst c false) a w
      refine wpAnyH_all (hr c (by omega) false) (by simp) (fun i hi => ?_)
      simp at hi
      rcases hi with rfl | rfl
      · refine wpOp_mono (fun a' w' h' => ⟨h'.1, ?_⟩) (s1 c (by omega) false a w h)
        rw [hs c (by omega)]
        exact ih' false a' w' h'.2
      · refine wpOp_mono (fun a' w' h' => ⟨h'.1, ?_⟩) (t1 c (by omega) a w h)
        rw [ht c (by omega)]
        exact both a' w' h'.2
end
abbrev St33 := Fin 4 × Bool × Bool × Bool
def nx33 (c1 c2 c3 a1 a2 a3 : Nat) : St33 → List (Nat × St33) := fun ⟨c, y1, y2, y3⟩ =>
  (if c = 0 then [(c1, (1, y1, y2, y3))] else if c = 1 then [(c2, (2, y1, y2, y3))] else if c = 2 then [(c3, (3, y1, y2, y3))] else []) ++
  (if y1 = false then [(a1, (c, true, y2, y3))] else []) ++ (if y2 = false then [(a2, (c, y1, true, y3))] else []) ++ (if y3 = false then [(a3, (c, y1, y2, true))] else [])
def fu33 (F : Nat) : St33 → Nat := fun ⟨c, y1, y2, y3⟩ => F + (3 - c.val) + (if y1 = false then 1 else 0) + (if y2 = false then 1 else 0) + (if y3 = false then 1 else 0)
section
variable {P : Program} {md : Region.Mode} {ops : Array Oper} {Q : Exit → Act → World → Prop} {S : World → Prop}
theorem anyH_33 (c1 c2 c3 a1 a2 a3 F : Nat) (lst : St33 → Array Bool) (I : St33 → Act → World → Prop)
    (hr : ∀ c y1 y2 y3, nx33 c1 c2 c3 a1 a2 a3 (c, y1, y2, y3) = [] ∨ Region.ready md ops (lst (c, y1, y2, y3)) = (nx33 c1 c2 c3 a1 a2 a3 (c, y1, y2, y3)).map (·.1))
    (hs : ∀ c y1 y2 y3, ∀ p ∈ nx33 c1 c2 c3 a1 a2 a3 (c, y1, y2, y3), (lst (c, y1, y2, y3)).setIfInBounds p.1 true = lst p.2)
    (s1 : ∀ y1 y2 y3 a w, I (0, y1, y2, y3) a w → wpOp P ops Q c1 (fun a' w' => S w' ∧ I (1, y1, y2, y3) a' w') a w)
    (s2 : ∀ y1 y2 y3 a w, I (1, y1, y2, y3) a w → wpOp P ops Q c2 (fun a' w' => S w' ∧ I (2, y1, y2, y3) a' w') a w)
    (s3 : ∀ y1 y2 y3 a w, I (2, y1, y2, y3) a w → wpOp P ops Q c3 (fun a' w' => S w' ∧ I (3, y1, y2, y3) a' w') a w)
    (t1 : ∀ c y2 y3 a w, I (c, false, y2, y3) a w → wpOp P ops Q a1 (fun a' w' => S w' ∧ I (c, true, y2, y3) a' w') a w)
    (t2 : ∀ c y1 y3 a w, I (c, y1, false, y3) a w → wpOp P ops Q a2 (fun a' w' => S w' ∧ I (c, y1, true, y3) a' w') a w)
    (t3 : ∀ c y1 y2 a w, I (c, y1, y2, false) a w → wpOp P ops Q a3 (fun a' w' => S w' ∧ I (c, y1, y2, true) a' w') a w)
    (fin : ∀ a w, I (3, true, true, true) a w → wpAnyH P md ops Q S F (lst (3, true, true, true)) a w)
    (a : Act) (w : World) (h : I (0, false, false, false) a w) : wpAnyH P md ops Q S (F + 6) (lst (0, false, false, false)) a w := by
  have key := anyH_states (P := P) (md := md) (ops := ops) (Q := Q) (S := S) lst I (nx33 c1 c2 c3 a1 a2 a3) (fu33 F)
    (by rintro ⟨c, y1, y2, y3⟩ hne; rcases hr c y1 y2 y3 with h | h; exact absurd h hne; exact h)
    (by
      rintro ⟨c, y1, y2, y3⟩ p hp
      refine ⟨hs c y1 y2 y3 p hp, ?_⟩
      simp only [nx33, List.mem_append] at hp
      rcases hp with ((hp | hp) | hp) | hp
      · by_cases c0 : c = 0
        · subst c0; simp at hp; subst hp; show F + 3 + _ + _ + _ = F + 2 + _ + _ + _ + 1; omega
        · by_cases c1 : c = 1
          · subst c1; simp at hp; subst hp; show F + 2 + _ + _ + _ = F + 1 + _ + _ + _ + 1; omega
          · by_cases c2 : c = 2
            · subst c2; simp at hp; subst hp; show F + 1 + _ + _ + _ = F + 0 + _ + _ + _ + 1; omega
            · simp [c0, c1, c2] at hp
      · cases y1 <;> simp at hp; subst hp; show F + _ + 1 + _ + _ = F + _ + 0 + _ + _ + 1; omega
      · cases y2 <;> simp at hp; subst hp; show F + _ + _ + 1 + _ = F + _ + _ + 0 + _ + 1; omega
      · cases y3 <;> simp at hp; subst hp; show F + _ + _ + _ + 1 = F + _ + _ + _ + 0 + 1; omega)
    (by
      rintro ⟨c, y1, y2, y3⟩ p hp a w h
      simp only [nx33, List.mem_append] at hp
      rcases hp with ((hp | hp) | hp) | hp
      · by_cases c0 : c = 0
        · subst c0; simp at hp; subst hp; exact s1 _ _ _ _ _ h
        · by_cases c1 : c = 1
          · subst c1; simp at hp; subst hp; exact s2 _ _ _ _ _ h
          · by_cases c2 : c = 2
            · subst c2; simp at hp; subst hp; exact s3 _ _ _ _ _ h
            · simp [c0, c1, c2] at hp
      · cases y1 <;> simp at hp; subst hp; exact t1 _ _ _ _ _ h
      · cases y2 <;> simp at hp; subst hp; exact t2 _ _ _ _ _ h
      · cases y3 <;> simp at hp; subst hp; exact t3 _ _ _ _ _ h)
    (by
      rintro ⟨c, y1, y2, y3⟩ hn a w h
      simp only [nx33, List.append_eq_nil_iff] at hn
      obtain ⟨⟨⟨h0, h1⟩, h2⟩, h3⟩ := hn
      cases y1 <;> simp at h1
      cases y2 <;> simp at h2
      cases y3 <;> simp at h3
      have hc : c = 3 := by
        by_cases c0 : c = 0
        · simp [c0] at h0
        · by_cases c1 : c = 1
          · simp [c1] at h0
          · by_cases c2 : c = 2
            · simp [c2] at h0
            · have := c.isLt; apply Fin.ext; have a0 : c.val ≠ 0 := fun e => c0 (Fin.ext e); have a1 : c.val ≠ 1 := fun e => c1 (Fin.ext e); have a2 : c.val ≠ 2 := fun e => c2 (Fin.ext e); show c.val = 3; omega
      subst hc
      exact fin a w h)
  exact key (F + 6) (0, false, false, false) (by simp [fu33]) a w h
end
end Go.Proofs.Ytljepnonigjcbaa
