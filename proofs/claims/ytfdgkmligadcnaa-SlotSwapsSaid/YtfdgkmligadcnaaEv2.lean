/- What the evaluator's values say of memory: relations, and how they are kept. -/
import Derived.Test.YtfdgkmligadcnaaEv1
set_option linter.unusedVariables false
set_option linter.unusedSimpArgs false
namespace Go.Ev
open Go

structure Loc where
  b : Nat
  off : Nat

def seg (c : Array Value) (i n : Nat) : List Value := (c.toList.drop i).take n

theorem seg_length {c : Array Value} {i n : Nat} (h : i + n ≤ c.size) : (seg c i n).length = n := by
  simp [seg]; omega

/-- cells that hold a plain value; what is behind a slice lies outside F -/
def Pu (w : World) (F : Nat → Prop) : (t : Ty) → t.den → List Value → Prop
  | .int k, x, cs => cs = [.int k x]
  | .bool, x, cs => cs = [.bool x]
  | .str, x, cs => cs = [.string x]
  | .nl, _, cs => cs = []
  | .pair a b, x, cs => Pu w F a x.1 (cs.take a.size) ∧ Pu w F b x.2 (cs.drop a.size)
  | .arr n t, xs, cs => xs.length = n ∧ cs.length = n * t.size ∧ ∀ i, i < n → Pu w F t (xs.getD i t.dflt) ((cs.drop (i * t.size)).take t.size)
  | .sl t, xs, cs => ∃ a cap, cs = [.slice a (List.length xs) cap] ∧ List.length xs ≤ cap ∧ (xs = [] ∨ ∃ b off cells T fr, a = some ⟨b, off, none⟩ ∧ ¬ F b ∧ w.heap[b]? = some (.cells cells T fr) ∧
      off + List.length xs * t.size ≤ cells.size ∧ ∀ i, i < List.length xs → Pu w F t (xs.getD i t.dflt) (seg cells (off + i * t.size) t.size))

theorem Pu.len {w : World} {F : Nat → Prop} : ∀ {t : Ty} {x : t.den} {cs : List Value}, Pu w F t x cs → cs.length = t.size := by
  intro t
  induction t with
  | int k => intro x cs h; simp [Pu] at h; simp [h, Ty.size]
  | bool => intro x cs h; simp [Pu] at h; simp [h, Ty.size]
  | str => intro x cs h; simp [Pu] at h; simp [h, Ty.size]
  | nl => intro x cs h; simp [Pu] at h; simp [h, Ty.size]
  | pair a b iha ihb =>
    intro x cs h
    have h1 := iha h.1
    have h2 := ihb h.2
    simp only [List.length_take, List.length_drop, Ty.size] at *
    omega
  | arr n t ih => intro x cs h; exact h.2.1
  | sl t ih => intro x cs h; obtain ⟨a, cap, rfl, _⟩ := h; rfl

theorem Pu.mono {w w' : World} {F F' : Nat → Prop} (H : ∀ b o, ¬ F b → w.heap[b]? = some o → w'.heap[b]? = some o ∧ ¬ F' b) :
    ∀ {t : Ty} {x : t.den} {cs : List Value}, Pu w F t x cs → Pu w' F' t x cs := by
  intro t
  induction t with
  | int k => intro x cs h; exact h
  | bool => intro x cs h; exact h
  | str => intro x cs h; exact h
  | nl => intro x cs h; exact h
  | pair a b iha ihb => intro x cs h; exact ⟨iha h.1, ihb h.2⟩
  | arr n t ih => intro x cs h; exact ⟨h.1, h.2.1, fun i hi => ih (h.2.2 i hi)⟩
  | sl t ih =>
    intro x cs h
    obtain ⟨a, cap, hc, hl, h⟩ := h
    refine ⟨a, cap, hc, hl, ?_⟩
    rcases h with h | ⟨b, off, cells, T, fr, ha, hF, hb, hs, he⟩
    · exact .inl h
    · obtain ⟨h1, h2⟩ := H b _ hF hb
      exact .inr ⟨b, off, cells, T, fr, ha, h2, h1, hs, fun i hi => ih (he i hi)⟩

/-! ### the evaluator's values -/
structure Env where
  w : World
  s : Nat → Option AV
  ρ : Nat → Option Loc

/-- the blocks of the objects -/
def Env.F (E : Env) (b : Nat) : Prop := ∃ o c l, E.s o = some c ∧ c.sh ≠ .bad ∧ E.ρ o = some l ∧ l.b = b

def AddrOf (E : Env) (o : Nat) (p : List PS) (a : Addr) : Prop :=
  ∃ c, E.s o = some c ∧ (c.sh = .bad ∨ ∃ l k e, E.ρ o = some l ∧ Sh.off p c.sh = some (k, e) ∧ a = ⟨l.b, l.off + k, none⟩)

def PrefOf (E : Env) (t : Ty) (x : t.den) (a : Addr) : Prop :=
  ∃ b off cells T fr, a = ⟨b, off, none⟩ ∧ ¬ E.F b ∧ E.w.heap[b]? = some (.cells cells T fr) ∧ off + t.size ≤ cells.size ∧ Pu E.w E.F t x (seg cells off t.size)

def ViewOf (E : Env) (o : Nat) (p : List PS) (off len : Int) (v : Value) : Prop :=
  ∃ (n : Nat) (a : Option Addr) (cap : Nat), v = .slice a n cap ∧ (n : Int) = len ∧ n ≤ cap ∧ ∃ c, E.s o = some c ∧ (c.sh = .bad ∨
    ∃ k t m, (Sh.off p c.sh = some (k, .arr t m) ∨ Sh.off p c.sh = some (k, .bk t m)) ∧ 0 ≤ off ∧ off + len ≤ m ∧
      (cap = 0 ∨ ∃ l cells T fr, E.ρ o = some l ∧ a = some ⟨l.b, l.off + k + off.toNat * t.size, none⟩ ∧ E.w.heap[l.b]? = some (.cells cells T fr) ∧
        l.off + k + (off.toNat + cap) * t.size ≤ cells.size))

def FullOf (E : Env) (o : Nat) (v : Value) : Prop :=
  ∃ (n : Nat) (a : Option Addr) (cap : Nat), v = .slice a n cap ∧ n ≤ cap ∧ ∃ c, E.s o = some c ∧ (c.sh = .bad ∨
    ∃ t, c.sh = .bk t n ∧ (cap = 0 ∨ ∃ l cells T fr, E.ρ o = some l ∧ a = some ⟨l.b, l.off, none⟩ ∧ E.w.heap[l.b]? = some (.cells cells T fr) ∧ l.off + cap * t.size ≤ cells.size))

/-- cells that hold a content -/
def Ce (E : Env) : AV → List Value → Prop
  | .top, _ => False
  | .int k n, cs => cs = [.int k n]
  | .bool b, cs => cs = [.bool b]
  | .str s, cs => cs = [.string s]
  | .ref o p, cs => ∃ a, cs = [.pointer (some a)] ∧ AddrOf E o p a
  | .nilp, cs => cs = [.pointer none]
  | .pref t x, cs => ∃ a, cs = [.pointer (some a)] ∧ PrefOf E t x a
  | .view o p off len, cs => ∃ v, cs = [v] ∧ ViewOf E o p off len v
  | .full o, cs => ∃ v, cs = [v] ∧ FullOf E o v
  | .lst t xs, cs => Pu E.w E.F (.sl t) xs cs
  | .nils, cs => cs = [.slice none 0 0]
  | .arr t n xs, cs => Pu E.w E.F (.arr n t) xs cs
  | .bk t xs, cs => Pu E.w E.F (.arr xs.length t) xs cs
  | .nl, cs => cs = []
  | .cons h t, cs => Ce E h (cs.take h.sh.size) ∧ Ce E t (cs.drop h.sh.size)
  | .tup _, _ => False
  | .iface T v, cs => ∃ u, cs = [.iface T u] ∧ v.sh = .leaf ∧ Ce E v [u]
  | .nili, cs => cs = [.nilIface]
  | .fn f, cs => cs = [.func (.func f) #[] #[]]

theorem Ce.len {E : Env} : ∀ {c : AV} {cs : List Value}, Ce E c cs → cs.length = c.sh.size := by
  intro c
  induction c with
  | top => intro cs h; exact h.elim
  | tup c => intro cs h; exact h.elim
  | cons h t ih1 ih2 =>
    intro cs hh
    have h1 := ih1 hh.1
    have h2 := ih2 hh.2
    simp only [List.length_take, List.length_drop, AV.sh, Sh.size] at *
    omega
  | arr t n xs => intro cs h; exact h.2.1
  | bk t xs => intro cs h; exact h.2.1
  | lst t xs => intro cs h; exact Pu.len h
  | ref o p => intro cs h; obtain ⟨a, rfl, _⟩ := h; rfl
  | pref t x => intro cs h; obtain ⟨a, rfl, _⟩ := h; rfl
  | view o p off len => intro cs h; obtain ⟨a, rfl, _⟩ := h; rfl
  | full o => intro cs h; obtain ⟨a, rfl, _⟩ := h; rfl
  | iface T v => intro cs h; obtain ⟨a, rfl, _⟩ := h; rfl
  | _ => intro cs h; simp only [Ce] at h; subst h; rfl

/-- one state after another: no part of what is shared has turned; an object is dead, or lies where it lay -/
structure Ext (E E' : Env) : Prop where
  ro : ∀ b o, ¬ E.F b → E.w.heap[b]? = some o → E'.w.heap[b]? = some o ∧ ¬ E'.F b
  ob : ∀ o c, E.s o = some c → ∃ c', E'.s o = some c' ∧ (c'.sh = .bad ∨ (c.sh ≠ .bad ∧ c'.sh = c.sh ∧ E'.ρ o = E.ρ o ∧
    ∀ l cells T fr, E.ρ o = some l → E.w.heap[l.b]? = some (.cells cells T fr) → ∃ cells' fr', E'.w.heap[l.b]? = some (.cells cells' T fr') ∧ cells.size ≤ cells'.size))

theorem Ext.refl (E : Env) : Ext E E := by
  refine ⟨fun b o hF h => ⟨h, hF⟩, fun o c h => ⟨c, h, ?_⟩⟩
  by_cases hb : c.sh = .bad
  · exact .inl hb
  · exact .inr ⟨hb, rfl, rfl, fun l cells T fr _ hh => ⟨cells, fr, hh, Nat.le_refl _⟩⟩

theorem Ext.trans {A B C : Env} (h : Ext A B) (k : Ext B C) : Ext A C := by
  refine ⟨fun b o hF hb => ?_, fun o c hc => ?_⟩
  · obtain ⟨h1, h2⟩ := h.ro b o hF hb
    exact k.ro b o h2 h1
  · obtain ⟨c', hc', h'⟩ := h.ob o c hc
    obtain ⟨c'', hc'', h''⟩ := k.ob o c' hc'
    refine ⟨c'', hc'', ?_⟩
    rcases h'' with h'' | ⟨n1, e1, r1, b1⟩
    · exact .inl h''
    · rcases h' with h' | ⟨n2, e2, r2, b2⟩
      · exact absurd h' n1
      · refine .inr ⟨n2, e1.trans e2, r1.trans r2, fun l cells T fr hl hb => ?_⟩
        obtain ⟨cs', fr', hb', hs'⟩ := b2 l cells T fr hl hb
        obtain ⟨cs'', fr'', hb'', hs''⟩ := b1 l cs' T fr' (r2.trans hl) hb'
        exact ⟨cs'', fr'', hb'', by omega⟩

theorem Ext.pu {E E' : Env} (h : Ext E E') {t : Ty} {x : t.den} {cs : List Value} (k : Pu E.w E.F t x cs) : Pu E'.w E'.F t x cs := k.mono h.ro

theorem Ext.addr {E E' : Env} (h : Ext E E') {o : Nat} {p : List PS} {a : Addr} (k : AddrOf E o p a) : AddrOf E' o p a := by
  obtain ⟨c, hc, hk⟩ := k
  obtain ⟨c', hc', h'⟩ := h.ob o c hc
  refine ⟨c', hc', ?_⟩
  rcases h' with h' | ⟨n2, e2, r2, b2⟩
  · exact .inl h'
  · rcases hk with hk | ⟨l, k, e, hl, ho, ha⟩
    · exact absurd hk n2
    · exact .inr ⟨l, k, e, r2.trans hl, e2 ▸ ho, ha⟩

theorem Ext.view {E E' : Env} (h : Ext E E') {o : Nat} {p : List PS} {off len : Int} {v : Value} (k : ViewOf E o p off len v) : ViewOf E' o p off len v := by
  obtain ⟨n, a, cap, hv, hn, hcap, c, hc, hk⟩ := k
  obtain ⟨c', hc', h'⟩ := h.ob o c hc
  refine ⟨n, a, cap, hv, hn, hcap, c', hc', ?_⟩
  rcases h' with h' | ⟨n2, e2, r2, b2⟩
  · exact .inl h'
  · rcases hk with hk | ⟨k, t, m, hoff, h0, hm, hk⟩
    · exact absurd hk n2
    · refine .inr ⟨k, t, m, e2 ▸ hoff, h0, hm, ?_⟩
      rcases hk with hk | ⟨l, cells, T, fr, hl, ha, hb, hs⟩
      · exact .inl hk
      · obtain ⟨cs', fr', hb', hs'⟩ := b2 l cells T fr hl hb
        exact .inr ⟨l, cs', T, fr', r2.trans hl, ha, hb', by omega⟩

theorem Ext.full {E E' : Env} (h : Ext E E') {o : Nat} {v : Value} (k : FullOf E o v) : FullOf E' o v := by
  obtain ⟨n, a, cap, hv, hcap, c, hc, hk⟩ := k
  obtain ⟨c', hc', h'⟩ := h.ob o c hc
  refine ⟨n, a, cap, hv, hcap, c', hc', ?_⟩
  rcases h' with h' | ⟨n2, e2, r2, b2⟩
  · exact .inl h'
  · rcases hk with hk | ⟨t, hsh, hk⟩
    · exact absurd hk n2
    · refine .inr ⟨t, e2 ▸ hsh, ?_⟩
      rcases hk with hk | ⟨l, cells, T, fr, hl, ha, hb, hs⟩
      · exact .inl hk
      · obtain ⟨cs', fr', hb', hs'⟩ := b2 l cells T fr hl hb
        exact .inr ⟨l, cs', T, fr', r2.trans hl, ha, hb', by omega⟩

theorem Ext.pref {E E' : Env} (h : Ext E E') {t : Ty} {x : t.den} {a : Addr} (k : PrefOf E t x a) : PrefOf E' t x a := by
  obtain ⟨b, off, cells, T, fr, ha, hF, hb, hs, hp⟩ := k
  obtain ⟨h1, h2⟩ := h.ro b _ hF hb
  exact ⟨b, off, cells, T, fr, ha, h2, h1, hs, h.pu hp⟩

theorem Ext.ce {E E' : Env} (h : Ext E E') : ∀ {c : AV} {cs : List Value}, Ce E c cs → Ce E' c cs := by
  intro c
  induction c with
  | ref o p => intro cs k; obtain ⟨a, hc, k⟩ := k; exact ⟨a, hc, h.addr k⟩
  | pref t x => intro cs k; obtain ⟨a, hc, k⟩ := k; exact ⟨a, hc, h.pref k⟩
  | view o p off len => intro cs k; obtain ⟨v, hc, k⟩ := k; exact ⟨v, hc, h.view k⟩
  | full o => intro cs k; obtain ⟨v, hc, k⟩ := k; exact ⟨v, hc, h.full k⟩
  | lst t xs => intro cs k; exact Ext.pu (t := .sl t) h k
  | arr t n xs => intro cs k; exact Ext.pu (t := .arr n t) h k
  | bk t xs => intro cs k; exact Ext.pu (t := .arr xs.length t) h k
  | cons a b iha ihb => intro cs k; exact ⟨iha k.1, ihb k.2⟩
  | iface T v ih => intro cs k; obtain ⟨u, hc, hs, k⟩ := k; exact ⟨u, hc, hs, ih k⟩
  | _ => intro cs k; exact k

/-! values of slots -/
def Val1 (E : Env) (v : AV) (u : Value) : Prop :=
  v = .top ∨ (v.agg = true ∧ ∃ cs, u = .agg cs.toArray ∧ Ce E v cs) ∨ (v.agg = false ∧ v.sh = .leaf ∧ Ce E v [u])
def ValT (E : Env) : AV → List Value → Prop
  | .nl, us => us = []
  | .cons h t, us => ∃ u r, us = u :: r ∧ Val1 E h u ∧ ValT E t r
  | _, _ => False
def Val (E : Env) (v : AV) (u : Value) : Prop := Val1 E v u ∨ ∃ c us, v = .tup c ∧ u = .tuple us ∧ ValT E c us.toList

theorem Ext.val1 {E E' : Env} (h : Ext E E') {v : AV} {u : Value} (k : Val1 E v u) : Val1 E' v u := by
  rcases k with k | ⟨k1, cs, k2, k3⟩ | ⟨k1, k2, k3⟩
  · exact .inl k
  · exact .inr (.inl ⟨k1, cs, k2, h.ce k3⟩)
  · exact .inr (.inr ⟨k1, k2, h.ce k3⟩)
theorem Ext.valT {E E' : Env} (h : Ext E E') : ∀ {c : AV} {us : List Value}, ValT E c us → ValT E' c us := by
  intro c
  induction c with
  | cons a b iha ihb => intro us k; obtain ⟨u, r, hu, k1, k2⟩ := k; exact ⟨u, r, hu, h.val1 k1, ihb k2⟩
  | nl => intro us k; exact k
  | _ => intro us k; exact k.elim
theorem Ext.val {E E' : Env} (h : Ext E E') {v : AV} {u : Value} (k : Val E v u) : Val E' v u := by
  rcases k with k | ⟨c, us, k1, k2, k3⟩
  · exact .inl (h.val1 k)
  · exact .inr ⟨c, us, k1, k2, h.valT k3⟩

theorem Val.top {E : Env} (u : Value) : Val E .top u := .inl (.inl rfl)
theorem Val.leaf {E : Env} {v : AV} {u : Value} (hs : v.sh = .leaf) (h : Ce E v [u]) : Val E v u := by
  refine .inl (.inr (.inr ⟨?_, hs, h⟩))
  cases v <;> simp_all [AV.sh, AV.agg]
theorem Val.ce {E : Env} {v : AV} {u : Value} (h : Val E v u) (hs : v.sh = .leaf) : Ce E v [u] := by
  rcases h with (h | ⟨h, _⟩ | ⟨_, _, h⟩) | ⟨c, us, h, _⟩
  · subst h; simp [AV.sh] at hs
  · cases v <;> simp_all [AV.sh, AV.agg]
  · exact h
  · subst h; simp [AV.sh] at hs
/-- a value that is no tuple and is known: its cells -/
theorem Val.cells {E : Env} {v : AV} {u : Value} (h : Val E v u) (hs : v.sh ≠ .bad) (hb : ∀ t xs, v ≠ .bk t xs) : Ce E v u.cells.toList ∧ (v.agg = true → ∃ cs, u = .agg cs) := by
  rcases h with (h | ⟨h1, cs, h2, h3⟩ | ⟨h1, h2, h3⟩) | ⟨c, us, h, _⟩
  · subst h; simp [AV.sh] at hs
  · subst h2; exact ⟨by simpa [Value.cells] using h3, fun _ => ⟨_, rfl⟩⟩
  · refine ⟨?_, fun e => by simp [h1] at e⟩
    have : u.cells.toList = [u] := by
      cases u with
      | agg cs =>
        exfalso
        cases v <;> simp [AV.sh] at h2 <;> simp [Ce] at h3
        all_goals first | (obtain ⟨n, a, cap, h, _⟩ := h3; simp at h) | simp [Pu] at h3
      | _ => rfl
    rw [this]; exact h3
  · subst h; simp [AV.sh] at hs

#print axioms Val.cells
end Go.Ev
