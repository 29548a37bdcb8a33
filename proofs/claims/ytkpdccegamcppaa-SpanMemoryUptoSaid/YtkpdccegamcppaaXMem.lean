/- Rows of one's own that are written, with all else left as it was. -/
import Derived.Test.YtkpdccegamcppaaXCalls
namespace Go.Proofs.Ytkpdccegamcppaa.PSpan
open Go.RowKit Go.Proofs.YtkpdccegamcppaaW.PrintWords Go.Proofs.YtkpdccegamcppaaW.PrintLast Go.Proofs.YtkpdccegamcppaaW.PrintMore Go.Proofs.Ytkpdccegamcppaa.SpanP
set_option linter.unusedVariables false
set_option linter.unusedSimpArgs false

theorem R_flat {W : World} {base : Nat} {ok : Nat → Prop} {v : Value} {xs : List Sn} (h : Kd.R k50 50 W base ok v xs) : Kd.R k50 50 W base (fun k => v.ownBlock = some k) v xs := by
  obtain ⟨h0, inner, ho, hr⟩ := h
  exact ⟨fun k hk => hk, inner, ho, hr.imp_ (fun x cs hp => by
    obtain rfl := k50_openM hp
    exact k50_mkM _ _ _ _)⟩
/-- Since the world N only the rows L and what is bad have been written. -/
structure St (N : World) (bad : Nat → Prop) (W : World) (L : List (Value × List Sn)) : Prop where
  os : W.os = N.os
  tape : W.tape = N.tape
  output : W.output = N.output
  size : N.heap.size ≤ W.heap.size
  block : ∀ k, k < N.heap.size → ¬ bad k → W.heap[k]? = N.heap[k]?
  rows : ∀ (i : Nat) v xs, L[i]? = some (v, xs) → Kd.R k50 50 W 0 (fun _ => True) v xs
  zone : ∀ (i : Nat) v xs k, L[i]? = some (v, xs) → v.ownBlock = some k → bad k ∨ N.heap.size ≤ k
  apart : ∀ (i j : Nat) v xs u ys k, i ≠ j → L[i]? = some (v, xs) → L[j]? = some (u, ys) → v.ownBlock = some k → u.ownBlock ≠ some k
section
variable {N W W1 : World} {bad : Nat → Prop} {L : List (Value × List Sn)}
theorem St.lt (h : St N bad W L) {i : Nat} {v : Value} {xs : List Sn} (hi : L[i]? = some (v, xs)) {k : Nat} (hk : v.ownBlock = some k) : k < W.heap.size := by
  obtain ⟨inner, ho⟩ := Kd.R_own (h.rows i v xs hi)
  exact own_lt ho k hk
theorem St.write (h : St N bad W L) {i : Nat} {v : Value} {xs : List Sn} (hi : L[i]? = some (v, xs)) {v1 : Value} {xs1 : List Sn} (hR : Kd.R k50 50 W1 0 (fun _ => True) v1 xs1) (hg : W.grownBy W1 v.ownBlock)
    (hat : v1.ownBlock = v.ownBlock ∨ ∃ b, v1.ownBlock = some b ∧ W.heap.size ≤ b) : St N bad W1 (L.set i (v1, xs1)) := by
  have hil : i < L.length := (List.getElem?_eq_some_iff.1 hi).1
  have get : ∀ (j : Nat) u ys, (L.set i (v1, xs1))[j]? = some (u, ys) → (i = j ∧ u = v1 ∧ ys = xs1) ∨ (i ≠ j ∧ L[j]? = some (u, ys)) := fun j u ys hj => by
    rw [List.getElem?_set] at hj
    by_cases e : i = j
    · rw [if_pos e, if_pos hil] at hj
      injection hj with hj
      injection hj with h1 h2
      exact .inl ⟨e, h1.symm, h2.symm⟩
    · rw [if_neg e] at hj
      exact .inr ⟨e, hj⟩
  have far : ∀ j u ys k, i ≠ j → L[j]? = some (u, ys) → u.ownBlock = some k → some k ≠ v.ownBlock ∧ v1.ownBlock ≠ some k := fun j u ys k hne hj hk => by
    have h1 : v.ownBlock ≠ some k := h.apart j i u ys v xs k (Ne.symm hne) hj hi hk
    refine ⟨fun e => h1 e.symm, ?_⟩
    rcases hat with e | ⟨b, e, hb⟩
    · rw [e]; exact h1
    · rw [e]
      intro e2
      injection e2 with e2
      have := h.lt hj hk
      omega
  refine ⟨hg.os.trans h.os, hg.tape.trans h.tape, hg.output.trans h.output, Nat.le_trans h.size hg.size, fun k hk hb => ?_, fun j u ys hj => ?_, fun j u ys k hj hk => ?_, fun j j2 u ys u2 ys2 k hne hj hj2 hk => ?_⟩
  · refine (hg.block k (Nat.lt_of_lt_of_le hk h.size) (fun e => ?_)).trans (h.block k hk hb)
    rcases h.zone i v xs k hi e.symm with k1 | k1
    · exact hb k1
    · omega
  · rcases get j u ys hj with ⟨_, rfl, rfl⟩ | ⟨hne, hj'⟩
    · exact hR
    · exact Kd.R_mono (Kd.R_grown (R_flat (h.rows j u ys hj')) hg (fun k hk => (far j u ys k hne hj' hk).1)) (fun _ _ => trivial)
  · rcases get j u ys hj with ⟨_, rfl, rfl⟩ | ⟨hne, hj'⟩
    · rcases hat with e | ⟨b, e, hb⟩
      · rw [e] at hk
        exact h.zone i v xs k hi hk
      · rw [e] at hk
        injection hk with hk
        have := h.size
        exact .inr (by omega)
    · exact h.zone j u ys k hj' hk
  · rcases get j u ys hj with ⟨e1, rfl, rfl⟩ | ⟨hn1, hj'⟩
    · rcases get j2 u2 ys2 hj2 with ⟨e2, _, _⟩ | ⟨hn2, hj2'⟩
      · exact absurd (e1.symm.trans e2) hne
      · intro e
        exact (far j2 u2 ys2 k hn2 hj2' e).2 hk
    · rcases get j2 u2 ys2 hj2 with ⟨e2, rfl, rfl⟩ | ⟨hn2, hj2'⟩
      · exact (far j u ys k hn1 hj' hk).2
      · exact h.apart j j2 u ys u2 ys2 k hne hj' hj2' hk
theorem St.below (h : St N bad W L) (hb : Below W.heap.size W W1) : St N bad W1 L :=
  ⟨hb.os.trans h.os, hb.tape.trans h.tape, hb.output.trans h.output, Nat.le_trans h.size hb.size, fun k hk hn => (hb.block k (Nat.lt_of_lt_of_le hk h.size)).trans (h.block k hk hn), fun i v xs hi => Kd.R_below (h.rows i v xs hi) hb, h.zone, h.apart⟩
theorem St.sub {L' : List (Value × List Sn)} (h : St N bad W L) (hs : ∀ (i : Nat) y, L'[i]? = some y → L[i]? = some y) : St N bad W L' :=
  ⟨h.os, h.tape, h.output, h.size, h.block, fun i v xs hi => h.rows i v xs (hs i _ hi), fun i v xs k hi => h.zone i v xs k (hs i _ hi), fun i j v xs u ys k hne hi hj => h.apart i j v xs u ys k hne (hs i _ hi) (hs j _ hj)⟩
theorem St.three {a b c : Value × List Sn} {l : List (Value × List Sn)} (h : St N bad W (a :: b :: c :: l)) : St N bad W [a, b, c] := h.sub (fun i y hi => by
  match i, hi with
  | 0, hi => exact hi
  | 1, hi => exact hi
  | 2, hi => exact hi)
theorem St.frame (h : St N bad W L) {base : Nat} (hb : base ≤ N.heap.size) (hn : ∀ k, k < base → ¬ bad k) : Below base N W := ⟨h.os, h.tape, h.output, h.size, fun k hk => h.block k (Nat.lt_of_lt_of_le hk hb) (hn k hk)⟩
theorem St.held (h : St N bad W L) {g : Nat} {cs : Array Value} {t : TypeId} {fr : Nat × Nat} (hm : N.heap[g]? = some (.cells cs t fr)) (hg : ¬ bad g) (j : Nat) : W.cell? ⟨g, j, none⟩ = cs[j]? := by
  have := (h.block g (Array.getElem?_eq_some_iff.1 hm).1 hg).trans hm
  simp [World.cell?, this]
theorem St.row {α : Type} {d : Kd α} {e s t : Nat} {v : Value} {ys : List α} (h : St N bad W L) (hr : d.R e N s (fun k => s ≤ k ∧ k < t) v ys) (hn : ∀ k, s ≤ k → k < t → ¬ bad k) : d.R e W s (fun k => s ≤ k ∧ k < t) v ys :=
  Kd.R_step hr (fun k hk hlt => h.block k hlt (hn k hk.1 hk.2))
end

/-- A row of one's own, made between two worlds. -/
def Zs {α : Type} (d : Kd α) (e s t : Nat) (A : Option Addr) (c : Nat) (r : List α) (W : World) : Prop := r.length ≤ c ∧ d.R e W s (fun k => s ≤ k ∧ k < t) (.slice A r.length c) r
def Zp {α : Type} (d : Kd α) (e s : Nat) (A : Option Addr) (c : Nat) (r : List α) (W : World) : Prop := r.length ≤ c ∧ d.R e W s (fun _ => True) (.slice A r.length c) r
theorem lat_Z {α : Type} {d : Kd α} {e s c : Nat} {A : Option Addr} {r : List α} {w : World} (h : Zp d e s A c r w) : Lat w (Zs d e s w.heap.size A c r) := fun W hW =>
  ⟨h.1, Kd.R_below (Kd.R_mono (Kd.R_bound h.2) (fun k hk => ⟨hk.2.1, hk.2.2.1⟩)) hW⟩
theorem Zs.reads {α : Type} {d : Kd α} {e s t c : Nat} {A : Option Addr} {r : List α} {W : World} (h : Zs d e s t A c r W) : d.C W A r.length r := by
  obtain ⟨A', c', hv, _, hC⟩ := Kd.R_reads h.2
  injection hv with e1 e2 e3
  subst e1
  exact hC
theorem Zs.inP {s t c : Nat} {A : Option Addr} {r : List Sn} {W : World} (h : Zs k50 50 s t A c r W) : InP A c r W := ⟨h.reads, h.1⟩
theorem Zs.inQ {s t c : Nat} {A : Option Addr} {r : List Q} {W : World} (h : Zs k68 68 s t A c r W) : InQ A c r W := ⟨h.reads, h.1⟩
theorem Zs.kept {α : Type} {d : Kd α} {e s t c : Nat} {A : Option Addr} {r : List α} {N W : World} {bad : Nat → Prop} {L : List (Value × List Sn)} (h : Zs d e s t A c r N) (k : St N bad W L) (hn : ∀ k, s ≤ k → k < t → ¬ bad k) : Zs d e s t A c r W := ⟨h.1, k.row h.2 hn⟩
theorem Zs.own {α : Type} {d : Kd α} {e s t c : Nat} {A : Option Addr} {r : List α} {W : World} (h : Zs d e s t A c r W) {k : Nat} (hk : (Value.slice A r.length c).ownBlock = some k) : s ≤ k ∧ k < t := h.2.1 k hk

def PZ3 (W : World) (r : List Sn) (n m : Int) (e : Ending) (w' : World) : Prop := ∃ A c, e = .returned (.tuple #[.slice A r.length c, .int .i64 n, .int .i64 m]) ∧ Zp k50 50 W.heap.size A c r w' ∧ Below W.heap.size W w'
def PZ2 (W : World) (r : List Sn) (m : Int) (e : Ending) (w' : World) : Prop := ∃ A c, e = .returned (.tuple #[.slice A r.length c, .int .i64 m]) ∧ Zp k50 50 W.heap.size A c r w' ∧ Below W.heap.size W w'
def PZQ (W : World) (r : List Q) (e : Ending) (w' : World) : Prop := ∃ A c, e = .returned (.slice A r.length c) ∧ Zp k68 68 W.heap.size A c r w' ∧ Below W.heap.size W w'
section
variable {W : World} {A0 A1 A2 : Option Addr} {c0 c1 c2 : Nat} {l0 l1 l2 : List Sn}
theorem z_union2 {r : List Sn} {n m : Int} (h0 : InP A0 c0 l0 W) (h1 : InP A1 c1 l1 W) (ev : Ev (fun k => span_Union.f k [l0, l1]) (r, n, m)) :
    Calls Try.prog 21 #[.slice (some ⟨W.heap.size, 0, none⟩) 2 2] (W.alloc (.cells #[.slice A0 l0.length c0, .slice A1 l1.length c1] 22)) (PZ3 W r n m) := by
  obtain ⟨k, hk⟩ := ev.rounds
  refine (span_Union.calls k _ 2 _ r n m _ (lists2 W h0 h1) (Nat.le_refl _) hk).mono ?_
  rintro e w' ⟨v, rfl, hR, hb⟩
  obtain ⟨A, c, rfl, hl, _⟩ := Kd.R_reads hR
  exact ⟨A, c, rfl, ⟨hl, Kd.R_lower hR (by simp)⟩, below_lit hb⟩
theorem z_cross {r : List Sn} {m : Int} (h0 : InP A0 c0 l0 W) (h1 : InP A1 c1 l1 W) (ev : Ev (fun k => span_Cross.f k l0 l1) (r, m)) : Calls Try.prog 22 #[.slice A0 l0.length c0, .slice A1 l1.length c1] W (PZ2 W r m) := by
  obtain ⟨k, hk⟩ := ev.rounds
  refine (span_Cross.calls k A0 c0 l0 A1 c1 l1 r m W h0.1 h0.2 h1.1 h1.2 hk).mono ?_
  rintro e w' ⟨v, rfl, hR, hb⟩
  obtain ⟨A, c, rfl, hl, _⟩ := Kd.R_reads hR
  exact ⟨A, c, rfl, ⟨hl, hR⟩, hb⟩
theorem z_minus {r : List Sn} {m : Int} (h0 : InP A0 c0 l0 W) (h1 : InP A1 c1 l1 W) (ev : Ev (fun k => span_Minus.f k l0 l1) (r, m)) : Calls Try.prog 23 #[.slice A0 l0.length c0, .slice A1 l1.length c1] W (PZ2 W r m) := by
  obtain ⟨k, hk⟩ := ev.rounds
  refine (span_Minus.calls k A0 c0 l0 A1 c1 l1 r m W h0.1 h0.2 h1.1 h1.2 hk).mono ?_
  rintro e w' ⟨v, rfl, hR, hb⟩
  obtain ⟨A, c, rfl, hl, _⟩ := Kd.R_reads hR
  exact ⟨A, c, rfl, ⟨hl, hR⟩, hb⟩
theorem z_other {r : List Sn} {m : Int} (h0 : InP A0 c0 l0 W) (ev : Ev (fun k => span_Other.f k l0) (r, m)) : Calls Try.prog 24 #[.slice A0 l0.length c0] W (PZ2 W r m) := by
  obtain ⟨k, hk⟩ := ev.rounds
  refine (span_Other.calls k A0 c0 l0 r m W h0.1 h0.2 hk).mono ?_
  rintro e w' ⟨v, rfl, hR, hb⟩
  obtain ⟨A, c, rfl, hl, _⟩ := Kd.R_reads hR
  exact ⟨A, c, rfl, ⟨hl, hR⟩, hb⟩
theorem z_make {r : List Sn} {n m : Int} (h0 : InP A0 c0 l0 W) (ev : span_Make.f l0 = some (r, n, m)) : Calls Try.prog 12 #[.slice A0 l0.length c0] W (PZ3 W r n m) := by
  refine (span_Make.calls A0 c0 l0 r n m W h0.1 h0.2 ev).mono ?_
  rintro e w' ⟨v, rfl, hR, hb⟩
  obtain ⟨A, c, rfl, hl, _⟩ := Kd.R_reads hR
  exact ⟨A, c, rfl, ⟨hl, hR⟩, hb⟩
theorem z_given (h0 : InP A0 c0 l0 W) (hl : l0.length ≤ 4194304) : Calls Try.prog 11 #[.slice A0 l0.length c0] W (PZQ W (l0.map toR)) := by
  obtain ⟨k, hk⟩ := (given_ev l0 hl).rounds
  refine (posternlaw07_given.calls k A0 c0 l0 _ W h0.1 h0.2 hk).mono ?_
  rintro e w' ⟨v, rfl, hR, hb⟩
  obtain ⟨A, c, rfl, hl, _⟩ := Kd.R_reads hR
  exact ⟨A, c, rfl, ⟨hl, hR⟩, hb⟩
end

abbrev mk9 : Sn := ⟨-9, -9⟩
theorem st_init {N : World} {bad : Nat → Prop} {s0 t0 s1 t1 s2 t2 c0 c1 c2 : Nat} {A0 A1 A2 : Option Addr} {l0 l1 l2 : List Sn} (h0 : Zs k50 50 s0 t0 A0 c0 l0 N) (h1 : Zs k50 50 s1 t1 A1 c1 l1 N) (h2 : Zs k50 50 s2 t2 A2 c2 l2 N) (e1 : t0 ≤ s1) (e2 : t1 ≤ s2) (e3 : s1 ≤ t1)
    (b0 : ∀ k, s0 ≤ k → k < t0 → bad k) (b1 : ∀ k, s1 ≤ k → k < t1 → bad k) (b2 : ∀ k, s2 ≤ k → k < t2 → bad k) :
    St N bad N [(.slice A0 l0.length c0, l0), (.slice A1 l1.length c1, l1), (.slice A2 l2.length c2, l2), (.slice none 0 0, []), (.slice none 0 0, []), (.slice none 0 0, [])] := by
  have own : ∀ (i : Nat) v xs k, ([(Value.slice A0 l0.length c0, l0), (.slice A1 l1.length c1, l1), (.slice A2 l2.length c2, l2), (.slice none 0 0, []), (.slice none 0 0, []), (.slice none 0 0, [])] : List (Value × List Sn))[i]? = some (v, xs) → v.ownBlock = some k → (i = 0 ∧ s0 ≤ k ∧ k < t0) ∨ (i = 1 ∧ s1 ≤ k ∧ k < t1) ∨ (i = 2 ∧ s2 ≤ k ∧ k < t2) := fun i v xs k hi hk => by
    match i, hi with
    | 0, hi => cases hi; exact .inl ⟨rfl, h0.own hk⟩
    | 1, hi => cases hi; exact .inr (.inl ⟨rfl, h1.own hk⟩)
    | 2, hi => cases hi; exact .inr (.inr ⟨rfl, h2.own hk⟩)
    | 3, hi => cases hi; cases hk
    | 4, hi => cases hi; cases hk
    | 5, hi => cases hi; cases hk
  refine ⟨rfl, rfl, rfl, Nat.le_refl _, fun _ _ _ => rfl, fun i v xs hi => ?_, fun i v xs k hi hk => ?_, fun i j v xs u ys k hne hi hj hk e => ?_⟩
  · match i, hi with
    | 0, hi => cases hi; exact Kd.R_mono (Kd.R_lower h0.2 (Nat.zero_le _)) (fun _ _ => trivial)
    | 1, hi => cases hi; exact Kd.R_mono (Kd.R_lower h1.2 (Nat.zero_le _)) (fun _ _ => trivial)
    | 2, hi => cases hi; exact Kd.R_mono (Kd.R_lower h2.2 (Nat.zero_le _)) (fun _ _ => trivial)
    | 3, hi => cases hi; exact Kd.R_nil _ _ _ _ _
    | 4, hi => cases hi; exact Kd.R_nil _ _ _ _ _
    | 5, hi => cases hi; exact Kd.R_nil _ _ _ _ _
  · rcases own i v xs k hi hk with ⟨_, a, b⟩ | ⟨_, a, b⟩ | ⟨_, a, b⟩
    · exact .inl (b0 k a b)
    · exact .inl (b1 k a b)
    · exact .inl (b2 k a b)
  · have o1 := own i v xs k hi hk
    have o2 := own j u ys k hj e
    omega

section
variable {ops : Array Oper} {rest : List Oper} {o : Oper} {a : Act} {Q : Exit → Act → World → Prop} {w0 W : World}
/-- A span stored whole. -/
theorem store_PS (base : Nat) (hN : o.dst = none) (hgd : o.guard = none) (p x : Operand) (ho : o.op = .store 50 p x) {g n c : Nat} (i : Nat) (xs : List Sn) (y : Sn) {ok : Nat → Prop}
    (hp : a.eval p = .pointer (some ⟨g, i * 2, none⟩)) (hx : a.eval x = .agg #[.int .i32 y.f0, .int .i32 y.f1]) (HO : Kd.R k50 50 W base ok (.slice (some ⟨g, 0, none⟩) n c) xs) (hi : i < xs.length) (HB : Below base w0 W)
    (h : ∀ w1, Kd.R k50 50 w1 base ok (.slice (some ⟨g, 0, none⟩) n c) (xs.set i y) → Below base w0 w1 → W.grownBy w1 (some g) → wpList Try.prog ops Q rest a w1) : wpList Try.prog ops Q (o :: rest) a W := by
  obtain ⟨hn, k0, k1⟩ := R_cellsP HO i hi
  refine Kd.R_store k50 (w0 := w0) base hN hgd 50 p x ho 50 (g := g) (n := n) (cap := c) (i : Int) 0 xs y (.agg #[.int .i32 y.f0, .int .i32 y.f1]) [.int .i32 y.f0, .int .i32 y.f1] [.int .i32 (rd_T50 xs (i : Int)).f0, .int .i32 (rd_T50 xs (i : Int)).f1] ok (fun _ => False) hp ?_ hx rfl (by kernel_rfl) ?_ HO (by omega) (by omega) rfl ?_ (Nat.le_of_ble_eq_true rfl) (k50_mkM _ _ _ y) (fun _ h => h.elim) HB ?_
  · show i * 2 = (i : Int).toNat * 2 + 0
    rw [Int.toNat_natCast]; rfl
  · intro q hq
    simp only [List.mem_cons, List.not_mem_nil, or_false] at hq
    rcases hq with rfl | rfl <;> rfl
  · intro j u hu
    rw [Int.toNat_natCast]
    show W.cell? ⟨g, i * 2 + j, none⟩ = some u
    match j, hu with
    | 0, hu => cases hu; exact k0
    | 1, hu => cases hu; exact k1
  · intro w1 h1 h2 h3
    rw [Int.toNat_natCast] at h1
    exact h w1 h1 h2 h3
end

end Go.Proofs.Ytkpdccegamcppaa.PSpan
