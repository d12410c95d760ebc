/-
  append(own, src...) inside a region that draws its order: one law for whatever source (nil, or known cells).
-/
import Derived.Test.YtimkingebjhemaaDoorCode
import Derived.Deep.RegionLaw
import Derived.RegionTactic
namespace Go.Proofs.YtimkingebjhemaaDoor
set_option linter.unusedVariables false
set_option linter.unusedSimpArgs false
open Go.RowKit

theorem run_app_none {P : Program} {w : World} (base : Nat) (t ty e : TypeId) (i : TypeInfo) (size : Nat) (ht : P.underlying t = some (.slice e)) (hi : P.info? e = some i)
    (v : Value) (n : Nat) (xs : List Value) (hown : w.ownsRow base e size v n xs) (c : Nat) : (Builtin.append_ #[t, t] ty #[v, .slice none 0 c]).run P w = .ok v w := by
  rcases hown.2 with ⟨rfl, rfl⟩ | ⟨g, cap, cur, rfl, _, _, hnc, _⟩
  · simp [Builtin.append_, run_underlying ht, sizeOf, typeInfo, hi, Builtin.lenOf, Builtin.firstCells]
  · simp [Builtin.append_, run_underlying ht, sizeOf, typeInfo, hi, Builtin.lenOf, Builtin.firstCells, hnc, storeCells]

/-- a source of an append: nil with whatever capacity, or a source as ever -/
def Src0 (w : World) (size : Nat) (xv : Value) (m : Nat) (news : List Value) : Prop := (∃ c, xv = .slice none 0 c ∧ m = 0 ∧ news = []) ∨ SrcRow w size xv m news

theorem step_app {P : Program} {w : World} {t e : TypeId} {size bytes : Nat} (T : RowT P t e size bytes) {ops : Array Oper} {o : Oper} {a : Act} {K : Act → World → Prop} {Q : Exit → Act → World → Prop} {E : Prop} (hgd : o.guard = none) (s x : Operand)
    (ho : o.op = .call { callee := .builtin .append, args := #[s, x], argTypes := #[t, t] }) (B : Nat) (v : Value) (n : Nat) (xs : List Value) (hs : a.eval s = v) (hown : w.ownsRow B e size v n xs)
    (xv : Value) (m : Nat) (news : List Value) (hx : a.eval x = xv) (hsrc : Src0 w size xv m news) (hn : n + m ≤ 1000000000) (hb : (n + m) * bytes ≤ 140737488355328) (hB : B ≤ w.heap.size)
    (h : ∀ v' w', w'.ownsRow B e size v' (n + m) (xs ++ news) → w.grownBy w' v.ownBlock → (∀ k, v.ownBlock = some k → B ≤ k) → K (a.put o.dst v') w') :
    if Region.wanted o (yielded ops a.tmps) = true then Oper.wp P o a w K Q else E := by
  have hw : Region.wanted o (yielded ops a.tmps) = true := by simp [Region.wanted, hgd]
  rw [if_pos hw]
  obtain ⟨i, z, hi, hz, hsz, hby, hzs⟩ := T.info
  rcases (show (∃ c, xv = .slice none 0 c ∧ m = 0 ∧ news = []) ∨ (news.length = m * size ∧ (∀ u ∈ news, u.oneCell' = true) ∧ ∃ ad c, xv = .slice (some ad) m c ∧ ∀ j u, news[j]? = some u → w.cell? (ad.add j) = some u) by
      rcases hsrc with h | ⟨hl, h1, ⟨rfl, rfl⟩ | h⟩
      · exact Or.inl h
      · exact Or.inl ⟨0, rfl, rfl, List.eq_nil_of_length_eq_zero (by simpa using hl)⟩
      · exact Or.inr ⟨hl, h1, h⟩) with ⟨c, rfl, rfl, rfl⟩ | ⟨hl, h1, ad, c, rfl, hc⟩
  · have hr := run_app_none (P := P) B t o.type e i size T.slice hi v n xs hown c
    unfold Oper.wp execOp
    simp only [ho, resolve, invoke, builtin, Sem.run_bind, Sem.run_pure, Result.andThen_ok, List.map_toArray, List.map_cons, List.map_nil, hs, hx, hr]
    exact h v w (by simpa using hown) ⟨rfl, rfl, rfl, Nat.le_refl _, fun _ _ _ => rfl⟩ (fun k hk => (hown.lt k hk).1)
  · exact wp_append_own w s x t ho B e i z size bytes T.slice hi hz hsz hby hzs T.pos v n xs hs hown ad m c news hx hl hc h1 (by unfold maxLen; omega) hb hB (fun v' w' h2 h3 _ => h v' w' h2 h3 (fun k hk => (hown.lt k hk).1))

theorem flat_at : ∀ (L : List (List Value)) (size j : Nat) (u : Value), 0 < size → (∀ c ∈ L, c.length = size) → L.flatten[j]? = some u → ∃ cs, L[j / size]? = some cs ∧ cs[j % size]? = some u
  | [], _, j, u, _, _, h => by simp at h
  | c :: L, size, j, u, hs, hl, h => by
    have hc := hl c (by simp)
    simp only [List.flatten_cons] at h
    by_cases hj : j < size
    · rw [List.getElem?_append_left (by omega)] at h
      exact ⟨c, by rw [Nat.div_eq_of_lt hj]; rfl, by rw [Nat.mod_eq_of_lt hj]; exact h⟩
    · rw [List.getElem?_append_right (by omega), hc] at h
      obtain ⟨cs, h1, h2⟩ := flat_at L size (j - size) u hs (fun x hx => hl x (by simp [hx])) h
      refine ⟨cs, ?_, ?_⟩
      · rw [Nat.div_eq_sub_div hs (by omega)]; simpa using h1
      · rw [Nat.mod_eq_sub_mod (by omega)]; exact h2

theorem src_of_code {w : World} {a : Option Addr} {cap : Nat} {l : List InsR} (h : CodeAt w a cap l) : Src0 w 6 (.slice a l.length cap) l.length (l.map insCells).flatten := by
  have hlen : ((l.map insCells).flatten).length = l.length * 6 := by
    clear h
    induction l with
    | nil => rfl
    | cons x r ih => simp only [List.map_cons, List.flatten_cons, List.length_append, ih, List.length_cons]; show 6 + r.length * 6 = _; omega
  have hone : ∀ u ∈ (l.map insCells).flatten, u.oneCell' = true := by
    intro u hu
    obtain ⟨c, hc, hu⟩ := List.mem_flatten.1 hu
    obtain ⟨x, _, rfl⟩ := List.mem_map.1 hc
    exact insCells_one x u hu
  obtain ⟨hle, h2 | ⟨b, off, rfl, _, hc⟩⟩ := h
  · have hl : l = [] := by simpa using h2
    subst hl
    cases a with
    | none => exact Or.inl ⟨cap, rfl, rfl, rfl⟩
    | some ad => exact Or.inr ⟨hlen, hone, Or.inr ⟨ad, cap, rfl, fun j u hj => by simp at hj⟩⟩
  · refine Or.inr ⟨hlen, hone, Or.inr ⟨_, cap, rfl, fun j u hj => ?_⟩⟩
    obtain ⟨cs, h3, h4⟩ := flat_at _ 6 j u (by decide) (by intro c hc; obtain ⟨x, _, rfl⟩ := List.mem_map.1 hc; rfl) hj
    have h5 := hc (j / 6) cs h3 (j % 6) u h4
    have e : (⟨b, off, none⟩ : Addr).add j = ⟨b, off + j / 6 * 6 + j % 6, none⟩ := by
      have e1 : (⟨b, off, none⟩ : Addr).add j = ⟨b, off + j, none⟩ := by unfold Addr.add; split <;> simp_all
      rw [e1]
      congr 1
      omega
    rw [e]; exact h5

theorem src_below {w w' : World} {size : Nat} {a : Option Addr} {n cap : Nat} {news : List Value} (h : SrcRow w size (.slice a n cap) n news) (hb : Below w.heap.size w w') (hlt : ∀ ad, a = some ad → ad.block < w.heap.size) : SrcRow w' size (.slice a n cap) n news :=
  h.moved (fun k hk => hb.block k (by
    cases a with
    | none => simp [Value.ownBlock] at hk
    | some ad => simp [Value.ownBlock] at hk; subst hk; exact hlt ad rfl))
end Go.Proofs.YtimkingebjhemaaDoor
