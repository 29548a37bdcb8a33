/- made: how memory stands while a table is made. -/
import Derived.Test.YtajmbafljncjcaaStep
import Derived.Test.YtajmbafljncjcaaFlat
import Derived.Carry
namespace Go.Proofs.Ytajmbafljncjcaa.Stage
open Go.RowKit Go.Proofs.YtajmbafljncjcaaW.PrintWords Go.Proofs.YtajmbafljncjcaaW.PrintLast Go.Proofs.YtajmbafljncjcaaW.PrintMore Go.Proofs.Ytajmbafljncjcaa.Mp
set_option linter.unusedVariables false
set_option linter.unusedSimpArgs false

/-! ### words -/
def ekB (xs : List Nat) : Value := .agg (natCells .u16 xs).toArray
def evB (n : Nat) : Value := .int .u16 (n : Int)
def zeros128 : List Nat := List.replicate 128 0
def whCells (wh : List Nat) (vu vp : Value) : List Value := natCells .u16 (wh ++ List.replicate (8704 - wh.length) 0) ++ [vu, vp]

theorem whCells_len {wh : List Nat} (h : wh.length ≤ 8704) (vu vp : Value) : (whCells wh vu vp).length = 8706 := by
  simp [whCells, natCells]; omega
theorem whCells_u {wh : List Nat} (h : wh.length ≤ 8704) (vu vp : Value) : (whCells wh vu vp)[8704]? = some vu := by
  have : (natCells .u16 (wh ++ List.replicate (8704 - wh.length) 0)).length = 8704 := by simp [natCells]; omega
  rw [whCells, List.getElem?_append_right (by omega), this]; rfl
theorem whCells_p {wh : List Nat} (h : wh.length ≤ 8704) (vu vp : Value) : (whCells wh vu vp)[8705]? = some vp := by
  have : (natCells .u16 (wh ++ List.replicate (8704 - wh.length) 0)).length = 8704 := by simp [natCells]; omega
  rw [whCells, List.getElem?_append_right (by omega), this]; rfl
theorem whCells_setU {wh : List Nat} (h : wh.length ≤ 8704) (vu vp v : Value) : (whCells wh vu vp).set 8704 v = whCells wh v vp := by
  have : (natCells .u16 (wh ++ List.replicate (8704 - wh.length) 0)).length = 8704 := by simp [natCells]; omega
  rw [whCells, List.set_append_right _ _ (by omega), this]; rfl
theorem whCells_setP {wh : List Nat} (h : wh.length ≤ 8704) (vu vp v : Value) : (whCells wh vu vp).set 8705 v = whCells wh vu v := by
  have : (natCells .u16 (wh ++ List.replicate (8704 - wh.length) 0)).length = 8704 := by simp [natCells]; omega
  rw [whCells, List.set_append_right _ _ (by omega), this]; rfl
theorem whCells_at {wh : List Nat} (vu vp : Value) (h : wh.length < 8704) : ∃ x : Nat, (whCells wh vu vp)[wh.length]? = some (.int .u16 (x : Int)) := by
  have h1 : wh.length < (wh ++ List.replicate (8704 - wh.length) 0).length := by simp; omega
  rw [whCells, List.getElem?_append_left (by rw [natCells_len]; exact h1), natCells_get _ _ _ h1]
  exact ⟨_, rfl⟩
theorem whCells_set {wh : List Nat} (vu vp : Value) (n : Nat) (h : wh.length < 8704) : (whCells wh vu vp).set wh.length (.int .u16 (n : Int)) = whCells (wh ++ [n]) vu vp := by
  have h1 : wh.length < (wh ++ List.replicate (8704 - wh.length) 0).length := by simp; omega
  rw [whCells, List.set_append_left _ _ (by rw [natCells_len]; exact h1), natCells_set, whCells]
  congr 2
  rw [List.set_append_right _ _ (Nat.le_refl _), Nat.sub_self]
  obtain ⟨m, hm⟩ : ∃ m, 8704 - wh.length = m + 1 := ⟨8704 - wh.length - 1, by omega⟩
  rw [hm, List.replicate_succ, List.set_cons_zero, List.length_append, List.length_singleton, show 8704 - (wh.length + 1) = m from by omega, List.append_assoc]
  rfl

theorem zipIdx_place {a : List Nat} : ∀ (ul : List (List Nat)) (s : Nat), place a (ul.zipIdx s) = if idxB a ul < ul.length then some (idxB a ul) else none
  | [], s => by simp [place, idxB]
  | b :: ul, s => by
    rw [List.zipIdx_cons, place, idxB]
    by_cases e : a = b
    · simp [e]
    · rw [if_neg e, if_neg e, zipIdx_place ul (s + 1)]
      by_cases h : idxB a ul < ul.length
      · rw [if_pos h, if_pos (by simpa using h)]; rfl
      · rw [if_neg h, if_neg (by simpa using h)]; rfl
theorem zipIdx_at {a : List Nat} (ul : List (List Nat)) : at? a ul.zipIdx = if idxB a ul < ul.length then some (idxB a ul) else none := by
  rw [at?, zipIdx_place]
  by_cases h : idxB a ul < ul.length
  · rw [if_pos h]
    simp [List.getElem?_zipIdx, List.getElem?_eq_getElem h]
  · rw [if_neg h]; rfl
theorem zipIdx_put {a : List Nat} (ul : List (List Nat)) (h : ¬ idxB a ul < ul.length) : put a ul.length ul.zipIdx = (ul ++ [a]).zipIdx := by
  rw [put, zipIdx_place, if_neg h, List.zipIdx_append]
  simp

theorem size_u16 : (Try.prog.info? 89).map (·.size) = some 1 := by kernel_rfl
theorem zero_u16 : (Try.prog.info? 89).map (·.zero) = some (some (.int .u16 0)) := by kernel_rfl
theorem keyB : KeyOk Try.prog 91 ekB (fun xs => xs.length = 128) := by
  have h := nats_ok (P := Try.prog) (t := 91) (e := 89) (n := 128) (k := .u16) Try.underlying91 Try.underlying89 (sizeOf_run size_u16)
  exact h

theorem info_block : (Try.prog.info? 91).map (fun i => (i.zero, i.size, i.bytes)) = some (some (.agg (natCells .u16 zeros128).toArray), 128, 256) := by kernel_rfl
theorem info_bool : (Try.prog.info? 4).map (fun i => (i.zero, i.size, i.bytes)) = some (some (.bool false), 1, 1) := by kernel_rfl
def chkZ : List Value → Nat → Bool
  | [.slice none 0 0, .slice none 0 0], 0 => true
  | .int .u16 0 :: l, n + 1 => chkZ l n
  | _, _ => false
theorem chkZ_eq : ∀ (n : Nat) (l : List Value), chkZ l n = true → l = natCells .u16 (List.replicate n 0) ++ [.slice none 0 0, .slice none 0 0]
  | 0, l, h => by
    unfold chkZ at h
    split at h
    · rfl
    · rename_i e; cases e
    · cases h
  | n + 1, l, h => by
    unfold chkZ at h
    split at h
    · rename_i e; cases e
    · rename_i l' m e
      obtain rfl : m = n := by omega
      rw [chkZ_eq _ _ h]
      rfl
    · cases h
theorem zero_Table0 : (match (Try.prog.info? 96).map (·.zero) with | some (some (.agg cs)) => chkZ cs.toList 8704 | _ => false) = true := by kernel_rfl
theorem zero_Table : (Try.prog.info? 96).map (·.zero) = some (some (.agg (whCells [] (.slice none 0 0) (.slice none 0 0)).toArray)) := by
  have h := zero_Table0
  split at h
  · rename_i cs e
    rw [e]
    have := chkZ_eq 8704 cs.toList h
    rw [← Array.toArray_toList (xs := cs), this]
    rfl
  · cases h
theorem zeros128_len : zeros128.length = 128 := by simp [zeros128]
theorem zc_block : Try.zeroCells91 = (natCells .u16 zeros128).toArray := by kernel_rfl
theorem size_block : (Try.prog.info? 91).map (·.size) = some 128 := by kernel_rfl
theorem zero_block : (Try.prog.info? 91).map (·.zero) = some (some (.agg (natCells .u16 zeros128).toArray)) := by kernel_rfl
theorem laid_block : (Try.prog.info? 91).map (fun i => (i.size, i.zero.map (·.cells.size))) = some (128, some 128) := by kernel_rfl

theorem call_enters {P : Program} {f : FuncId} {fn : Func} (hf : P.funcs[f]? = some fn) (hname : (fn.name == "runtime.NumGoroutine") = false) (hb : fn.body.isNone = false) (args : Array Value) (w : World) : (callFunc f args).run P w = .ok (.enter f args) w := by
  have h1 : ¬ fn.name = "runtime.NumGoroutine" := by simpa using hname
  have h2 : ¬ fn.body = none := fun e => by rw [e] at hb; cases hb
  simp [callFunc, go_sem, hf, h1, h2]
/-! ### what is handed in -/
def FillPost (Pr : Nat → Prop) (S : Nat → World → Prop) (bs : Nat → List Nat) (B i : Nat) (W : World) (e : Ending) (W' : World) : Prop :=
  ∃ laid, e = .returned (.bool laid) ∧ (laid = false → bs i = zeros128) ∧ S (i + 1) W' ∧ Blk W' B (natCells .u16 (bs i)) 91 ∧ Keeps (fun k => Pr k ∨ k = B) W W'

/-- A function that lays numbers over a block: Pr: the blocks of its own that it writes; S: how they stand ahead of block i. -/
structure Fill (w0 : World) (N : FuncId) (cap : Array Value) (Pr : Nat → Prop) (S : Nat → World → Prop) (bs : Nat → List Nat) : Prop where
  pr : ∀ k, Pr k → k < w0.heap.size
  ent : ∀ (args : Array Value) (W : World), (callFunc N args).run Try.prog W = .ok (.enter N args) W
  start : S 0 w0
  stable : ∀ i (W W' : World), S i W → (∀ k, k < w0.heap.size → W'.heap[k]? = W.heap[k]?) → S i W'
  len : ∀ i, (bs i).length = 128
  call : ∀ i, i < 8704 → ∀ (W : World) (B : Nat), S i W → w0.heap.size ≤ B → Blk W B (natCells .u16 zeros128) 91 → w0.heap.size ≤ W.heap.size →
    Calls Try.prog N (#[.int .i32 ((i : Int) * 128), .pointer (some ⟨B, 0, none⟩)] ++ cap) W (FillPost Pr S bs B i W)

/-! ### the state -/
structure MadeSt (w0 W : World) (T M B : Nat) (wh : List Nat) (um uu up : List (List Nat)) (vu vp : Value) (cur : List Nat) : Prop where
  hT : Blk W T (whCells wh vu vp) 96
  hM : MapAt ekB evB W M um.zipIdx
  hB : Blk W B (natCells .u16 cur) 91
  hu : W.ownsRow w0.heap.size 91 128 vu uu.length (uu.flatMap (natCells .u16))
  hp : W.ownsRow w0.heap.size 4 1 vp up.length (up.map fun b => .bool (flatB b))
  nb : vu.ownBlock ≠ some B
  lT : w0.heap.size ≤ T
  lM : w0.heap.size ≤ M
  lB : w0.heap.size ≤ B
  wl : wh.length ≤ 8704
  l128 : ∀ b ∈ um, b.length = 128
  lW : w0.heap.size ≤ W.heap.size

section
variable {w0 W W1 : World} {T M B : Nat} {wh : List Nat} {um uu up : List (List Nat)} {vu vp : Value} {cur : List Nat}

theorem own_not_typed {w : World} {base n b : Nat} {e t : TypeId} {size : Nat} {v : Value} {xs cs : List Value} (h : w.ownsRow base e size v n xs) (hb : Blk w b cs t) (hne : e ≠ t) : v.ownBlock ≠ some b := fun hk => by
  obtain ⟨cells, hc⟩ := own_typed h b hk
  rw [show w.heap[b]? = _ from hb] at hc
  injection hc with hc
  injection hc with _ hc
  exact hne hc.symm
theorem own_not_map {w : World} {base n b : Nat} {e : TypeId} {size : Nat} {v : Value} {xs : List Value} {l : List (List Nat × Nat)} (h : w.ownsRow base e size v n xs) (hb : MapAt ekB evB w b l) : v.ownBlock ≠ some b := fun hk => by
  obtain ⟨cells, hc⟩ := own_typed h b hk
  obtain ⟨es, clock, hm, _⟩ := hb
  rw [hm] at hc
  injection hc with hc
  cases hc
theorem blk_not_map {w : World} {b m : Nat} {cs : List Value} {t : TypeId} {l : List (List Nat × Nat)} (h : Blk w b cs t) (hb : MapAt ekB evB w m l) : b ≠ m := fun e => by
  obtain ⟨es, clock, hm, _⟩ := hb
  subst e
  rw [show w.heap[b]? = _ from h] at hm
  injection hm with hm
  cases hm
theorem blk_types {w : World} {b m : Nat} {cs cs' : List Value} {t t' : TypeId} (h : Blk w b cs t) (h' : Blk w m cs' t') (hne : t ≠ t') : b ≠ m := fun e => by
  subst e
  have : some (Obj.cells cs.toArray t (0, 0)) = some (Obj.cells cs'.toArray t' (0, 0)) := by
    rw [← show w.heap[b]? = _ from h, ← show w.heap[b]? = _ from h']
  injection this with this
  injection this with _ this
  exact hne this

/-- All blocks from the begin of the call on are as they were, but b's. -/
theorem MadeSt.filled (h : MadeSt w0 W T M B wh um uu up vu vp cur) {Pr : Nat → Prop} (hk : Keeps (fun k => Pr k ∨ k = B) W W1) (hp : ∀ k, Pr k → k < w0.heap.size) {cur' : List Nat} (hB1 : Blk W1 B (natCells .u16 cur') 91) :
    MadeSt w0 W1 T M B wh um uu up vu vp cur' := by
  have hn : ∀ k, w0.heap.size ≤ k → k ≠ B → ¬ (Pr k ∨ k = B) := fun k h1 h2 h3 => by
    rcases h3 with h3 | h3
    · have := hp k h3; omega
    · exact h2 h3
  have hTB := blk_types h.hT h.hB (by decide)
  have hMB := blk_not_map h.hB h.hM
  refine ⟨h.hT.kept hk (hn T h.lT hTB), h.hM.block (hk.block M h.hM.lt (hn M h.lM (Ne.symm hMB))), hB1, own_move h.hu (fun k hb => hk.block k (own_lt h.hu k hb) (hn k (own_base h.hu k hb) (fun e => h.nb (e ▸ hb)))), own_move h.hp (fun k hb => hk.block k (own_lt h.hp k hb) (hn k (own_base h.hp k hb) (fun e => own_not_typed h.hp h.hB (by decide) (e ▸ hb)))), h.nb, h.lT, h.lM, h.lB, h.wl, h.l128, Nat.le_trans h.lW hk.size⟩

theorem MadeSt.drewN (h : MadeSt w0 W T M B wh um uu up vu vp cur) (n : Nat) : MadeSt w0 (W.drewN n) T M B wh um uu up vu vp cur :=
  ⟨h.hT, h.hM, h.hB, h.hu, h.hp, h.nb, h.lT, h.lM, h.lB, h.wl, h.l128, h.lW⟩

theorem MadeSt.drew (h : MadeSt w0 W T M B wh um uu up vu vp cur) : MadeSt w0 W.drew T M B wh um uu up vu vp cur :=
  ⟨h.hT, h.hM, h.hB, h.hu, h.hp, h.nb, h.lT, h.lM, h.lB, h.wl, h.l128, h.lW⟩
theorem MadeSt.keepU (h : MadeSt w0 W T M B wh um uu up vu vp cur) {o : Obj} {w2 : World} (hg : (W.alloc o).grownBy w2 vu.ownBlock) : w2.cell? ⟨T, 8704, none⟩ = some vu ∧ w2.frozen? ⟨T, 8704, none⟩ = false := by
  have hT2 : Blk w2 T (whCells wh vu vp) 96 := (((World.grownBy_alloc W o _).trans hg).block T h.hT.lt (fun e => own_not_typed h.hu h.hT (by decide) e.symm)).trans h.hT
  exact ⟨(hT2.cell 8704).trans (whCells_u h.wl _ _), hT2.free _⟩
theorem MadeSt.keepP (h : MadeSt w0 W T M B wh um uu up vu vp cur) {o : Obj} {w2 : World} (hg : (W.alloc o).grownBy w2 vp.ownBlock) : w2.cell? ⟨T, 8705, none⟩ = some vp ∧ w2.frozen? ⟨T, 8705, none⟩ = false := by
  have hT2 : Blk w2 T (whCells wh vu vp) 96 := (((World.grownBy_alloc W o _).trans hg).block T h.hT.lt (fun e => own_not_typed h.hp h.hT (by decide) e.symm)).trans h.hT
  exact ⟨(hT2.cell 8705).trans (whCells_p h.wl _ _), hT2.free _⟩

theorem MadeSt.old (h : MadeSt w0 W T M B wh um uu up vu vp cur) {e sz n : Nat} {v : Value} {xs : List Value} (ho : W.ownsRow w0.heap.size e sz v n xs) {o : Obj} {w2 : World} (hg : (W.alloc o).grownBy w2 v.ownBlock) (j : Nat) (u : Value) :
    ∀ i, i < w0.heap.size → (w2.setCell ⟨T, j, none⟩ u).heap[i]? = W.heap[i]? := fun i hi =>
  (Below.heap_setCell _ _ _ _ (fun e => by have := h.lT; simp at e; omega)).trans (((World.grownBy_alloc W o _).trans hg).block i (Nat.lt_of_lt_of_le hi h.lW) (fun e => by have := own_base ho i e.symm; omega))
theorem MadeSt.oldKeeps (h : MadeSt w0 W T M B wh um uu up vu vp cur) {e sz n : Nat} {v : Value} {xs : List Value} (ho : W.ownsRow w0.heap.size e sz v n xs) {o : Obj} {w2 : World} (hg : (W.alloc o).grownBy w2 v.ownBlock) (j : Nat) (u : Value) {Pr : Nat → Prop} (hk : Keeps Pr w0 W) :
    Keeps Pr w0 (w2.setCell ⟨T, j, none⟩ u) :=
  (hk.grown ((World.grownBy_alloc W o _).trans hg) (fun k e hk => by have := own_base ho k e; omega)).setCell _ _ (fun hh => by have := h.lT; simp at hh; omega)

/-- A number of a block, stored. -/
theorem MadeSt.which (h : MadeSt w0 W T M B wh um uu up vu vp cur) (n : Nat) (hl : wh.length < 8704) : MadeSt w0 (W.setCell ⟨T, wh.length, none⟩ (.int .u16 (n : Int))) T M B (wh ++ [n]) um uu up vu vp cur := by
  have hTB := blk_types h.hT h.hB (by decide)
  have hTM := blk_not_map h.hT h.hM
  have h1 := own_not_typed h.hu h.hT (by decide)
  have h2 := own_not_typed h.hp h.hT (by decide)
  have hs := h.hT.set wh.length (.int .u16 (n : Int))
  rw [whCells_set _ _ _ hl] at hs
  refine ⟨hs, h.hM.block (Below.heap_setCell _ _ _ _ (Ne.symm hTM)), h.hB.other (Ne.symm hTB) _, own_move h.hu (fun k hb => Below.heap_setCell _ _ _ _ (fun e => h1 (by rw [hb]; exact congrArg some e))), own_move h.hp (fun k hb => Below.heap_setCell _ _ _ _ (fun e => h2 (by rw [hb]; exact congrArg some e))), h.nb, h.lT, h.lM, h.lB, by simp; omega, h.l128, by rw [size_setCell]; exact h.lW⟩

/-- b, written whole. -/
theorem MadeSt.cleared (h : MadeSt w0 W T M B wh um uu up vu vp cur) (cur' : List Nat) : MadeSt w0 (W.setRow B (natCells .u16 cur').toArray) T M B wh um uu up vu vp cur' := by
  have hTB := blk_types h.hT h.hB (by decide)
  have hMB := blk_not_map h.hB h.hM
  have h2 := own_not_typed h.hp h.hB (by decide)
  refine ⟨h.hT.setRow_other hTB _, h.hM.block (Go.setRow_other _ _ _ _ (Ne.symm hMB)), h.hB.setRow _, own_move h.hu (fun k hb => Go.setRow_other _ _ _ _ (fun e => h.nb (e ▸ hb))), own_move h.hp (fun k hb => Go.setRow_other _ _ _ _ (fun e => h2 (e ▸ hb))), h.nb, h.lT, h.lM, h.lB, h.wl, h.l128, by rw [size_setRow]; exact h.lW⟩

/-- A new key. -/
theorem MadeSt.keyed (h : MadeSt w0 W T M B wh um uu up vu vp cur) {o : Obj} {um' : List (List Nat)} (hm : MapAt ekB evB (setObjAt W M o) M um'.zipIdx) (h128 : ∀ b ∈ um', b.length = 128) : MadeSt w0 (setObjAt W M o) T M B wh um' uu up vu vp cur := by
  have hTM := blk_not_map h.hT h.hM
  have hMB := blk_not_map h.hB h.hM
  have h1 := own_not_map h.hu h.hM
  have h2 := own_not_map h.hp h.hM
  have hs : ∀ k, k ≠ M → (setObjAt W M o).heap[k]? = W.heap[k]? := fun k hk => by simp [setObjAt, Array.getElem?_setIfInBounds, Ne.symm hk]
  refine ⟨h.hT.setObj hTM _, hm, h.hB.setObj hMB _, own_move h.hu (fun k hb => hs k (fun e => h1 (e ▸ hb))), own_move h.hp (fun k hb => hs k (fun e => h2 (e ▸ hb))), h.nb, h.lT, h.lM, h.lB, h.wl, h128, by simp [setObjAt]; exact h.lW⟩

/-- A block more. -/
theorem MadeSt.unlike (h : MadeSt w0 W T M B wh um uu up vu vp cur) {g cap : Nat} {b : List Nat} {o : Obj} {w2 : World} (hown : w2.ownsRow w0.heap.size 91 128 (.slice (some ⟨g, 0, none⟩) (uu.length + 1) cap) (uu.length + 1) (uu.flatMap (natCells .u16) ++ natCells .u16 b))
    (hg : (W.alloc o).grownBy w2 vu.ownBlock) (hat : vu.ownBlock = some g ∨ g = W.heap.size + 1) :
    MadeSt w0 (w2.setCell ⟨T, 8704, none⟩ (.slice (some ⟨g, 0, none⟩) (uu.length + 1) cap)) T M B wh um (uu ++ [b]) up (.slice (some ⟨g, 0, none⟩) (uu.length + 1) cap) vp cur := by
  have hTB := blk_types h.hT h.hB (by decide)
  have hTM := blk_not_map h.hT h.hM
  have h1 := own_not_typed h.hu h.hT (by decide)
  have h2 := own_not_typed h.hp h.hT (by decide)
  have h3 := own_not_map h.hu h.hM
  have hg' : W.grownBy w2 vu.ownBlock := (World.grownBy_alloc W o _).trans hg
  have hk : ∀ k, k < W.heap.size → vu.ownBlock ≠ some k → w2.heap[k]? = W.heap[k]? := fun k hk hn => hg'.block k hk (fun e => hn e.symm)
  have hT2 : Blk w2 T (whCells wh vu vp) 96 := (hk T h.hT.lt h1).trans h.hT
  have hs := hT2.set 8704 (.slice (some ⟨g, 0, none⟩) (uu.length + 1) cap)
  rw [whCells_setU h.wl] at hs
  have hgT : T ≠ g := fun e => by
    rcases hat with hat | hat
    · exact h1 (by rw [hat, e])
    · have := h.hT.lt; omega
  refine ⟨hs, h.hM.block ((Below.heap_setCell _ _ _ _ (Ne.symm hTM)).trans (hk M h.hM.lt h3)), ?_, ?_, ?_, ?_, h.lT, h.lM, h.lB, h.wl, h.l128, by rw [size_setCell]; exact Nat.le_trans h.lW hg'.size⟩
  · exact (Below.heap_setCell _ _ _ _ (Ne.symm hTB)).trans ((hk B h.hB.lt h.nb).trans h.hB)
  · have := own_move hown (w1 := w2.setCell ⟨T, 8704, none⟩ (.slice (some ⟨g, 0, none⟩) (uu.length + 1) cap)) (fun k hb => Below.heap_setCell _ _ _ _ (fun e => hgT (by simp [Value.ownBlock] at hb; rw [hb]; exact e.symm)))
    simpa [List.flatMap_append] using this
  · refine own_move h.hp (fun k hb => (Below.heap_setCell _ _ _ _ (fun e => h2 (by rw [hb]; exact congrArg some e))).trans (hk k (own_lt h.hp k hb) (fun e => ?_)))
    have := own_type_ne h.hu h.hp (by decide)
    rcases this with h5 | h5
    · rw [h5] at e; cases e
    · exact h5 (e.trans hb.symm)
  · intro e
    simp only [Value.ownBlock, Option.some.injEq] at e
    rcases hat with hat | hat
    · exact h.nb (by rw [hat, e])
    · have := h.hB.lt; omega

/-- Whether it has one number alone. -/
theorem MadeSt.plained (h : MadeSt w0 W T M B wh um uu up vu vp cur) {g cap : Nat} {b : List Nat} {o : Obj} {w2 : World} (hown : w2.ownsRow w0.heap.size 4 1 (.slice (some ⟨g, 0, none⟩) (up.length + 1) cap) (up.length + 1) (up.map (fun b => .bool (flatB b)) ++ [.bool (flatB b)]))
    (hg : (W.alloc o).grownBy w2 vp.ownBlock) (hat : vp.ownBlock = some g ∨ g = W.heap.size + 1) :
    MadeSt w0 (w2.setCell ⟨T, 8705, none⟩ (.slice (some ⟨g, 0, none⟩) (up.length + 1) cap)) T M B wh um uu (up ++ [b]) vu (.slice (some ⟨g, 0, none⟩) (up.length + 1) cap) cur := by
  have hTB := blk_types h.hT h.hB (by decide)
  have hTM := blk_not_map h.hT h.hM
  have h1 := own_not_typed h.hp h.hT (by decide)
  have h2 := own_not_typed h.hu h.hT (by decide)
  have h3 := own_not_map h.hp h.hM
  have h4 := own_not_typed h.hp h.hB (by decide)
  have hg' : W.grownBy w2 vp.ownBlock := (World.grownBy_alloc W o _).trans hg
  have hk : ∀ k, k < W.heap.size → vp.ownBlock ≠ some k → w2.heap[k]? = W.heap[k]? := fun k hk hn => hg'.block k hk (fun e => hn e.symm)
  have hT2 : Blk w2 T (whCells wh vu vp) 96 := (hk T h.hT.lt h1).trans h.hT
  have hs := hT2.set 8705 (.slice (some ⟨g, 0, none⟩) (up.length + 1) cap)
  rw [whCells_setP h.wl] at hs
  have hgT : T ≠ g := fun e => by
    rcases hat with hat | hat
    · exact h1 (by rw [hat, e])
    · have := h.hT.lt; omega
  refine ⟨hs, h.hM.block ((Below.heap_setCell _ _ _ _ (Ne.symm hTM)).trans (hk M h.hM.lt h3)), ?_, ?_, ?_, h.nb, h.lT, h.lM, h.lB, h.wl, h.l128, by rw [size_setCell]; exact Nat.le_trans h.lW hg'.size⟩
  · exact (Below.heap_setCell _ _ _ _ (Ne.symm hTB)).trans ((hk B h.hB.lt h4).trans h.hB)
  · refine own_move h.hu (fun k hb => (Below.heap_setCell _ _ _ _ (fun e => h2 (by rw [hb]; exact congrArg some e))).trans (hk k (own_lt h.hu k hb) (fun e => ?_)))
    have := own_type_ne h.hp h.hu (by decide)
    rcases this with h5 | h5
    · rw [h5] at e; cases e
    · exact h5 (e.trans hb.symm)
  · have := own_move hown (w1 := w2.setCell ⟨T, 8705, none⟩ (.slice (some ⟨g, 0, none⟩) (up.length + 1) cap)) (fun k hb => Below.heap_setCell _ _ _ _ (fun e => hgT (by simp [Value.ownBlock] at hb; rw [hb]; exact e.symm)))
    simpa using this
theorem mem_zipIdx {ul : List (List Nat)} {p : List Nat × Nat} (h : p ∈ ul.zipIdx) : p.1 ∈ ul := by
  obtain ⟨i, hi⟩ := List.mem_iff_getElem?.1 h
  rw [List.getElem?_zipIdx] at hi
  obtain ⟨b, hb, rfl⟩ := Option.map_eq_some_iff.1 hi
  exact List.mem_of_getElem? hb
theorem MadeSt.look (h : MadeSt w0 W T M B wh um uu up vu vp cur) (b : List Nat) (hb : b.length = 128) :
    (Instr.lookup 139 (.map (some M)) (ekB b) true).run Try.prog W = .ok (.tuple #[evB ((if idxB b um < um.length then some (idxB b um) else none).getD 0), .bool (if idxB b um < um.length then some (idxB b um) else none).isSome]) W := by
  have := run_lookup keyB (ev := evB) Try.underlying139 (z := 0) (fun w => zeroValue_run zero_u16 w) h.hM (fun p hp => h.l128 p.1 (mem_zipIdx hp)) b hb
  rwa [zipIdx_at] at this
theorem MadeSt.look_in (h : MadeSt w0 W T M B wh um uu up vu vp cur) (b : List Nat) (hb : b.length = 128) (hin : idxB b um < um.length) :
    (Instr.lookup 139 (.map (some M)) (ekB b) true).run Try.prog W = .ok (.tuple #[.int .u16 ((idxB b um : Nat) : Int), .bool true]) W := by
  have := h.look b hb
  rw [if_pos hin] at this
  exact this
theorem MadeSt.look_out (h : MadeSt w0 W T M B wh um uu up vu vp cur) (b : List Nat) (hb : b.length = 128) (hin : ¬ idxB b um < um.length) :
    (Instr.lookup 139 (.map (some M)) (ekB b) true).run Try.prog W = .ok (.tuple #[.int .u16 0, .bool false]) W := by
  have := h.look b hb
  rw [if_neg hin] at this
  exact this
theorem MadeSt.look_any (h : MadeSt w0 W T M B wh um uu up vu vp cur) (b : List Nat) (hb : b.length = 128) :
    ∃ (n0 : Nat) (th : Bool), (Instr.lookup 139 (.map (some M)) (ekB b) true).run Try.prog W = .ok (.tuple #[.int .u16 (n0 : Int), .bool th]) W ∧ (th = true → idxB b um < um.length ∧ n0 = idxB b um) ∧ (th = false → ¬ idxB b um < um.length) := by
  by_cases hin : idxB b um < um.length
  · exact ⟨_, true, h.look_in b hb hin, fun _ => ⟨hin, rfl⟩, (fun h => by cases h)⟩
  · exact ⟨0, false, h.look_out b hb hin, (fun h => by cases h), fun _ => hin⟩
theorem MadeSt.upd (h : MadeSt w0 W T M B wh um uu up vu vp cur) (b : List Nat) (hb : b.length = 128) (hin : ¬ idxB b um < um.length) :
    ∃ o, (Instr.mapUpdate 139 (.map (some M)) (ekB b) (.int .u16 ((um.length : Nat) : Int))).run Try.prog W = .ok () (setObjAt W M o) ∧ MadeSt w0 (setObjAt W M o) T M B wh (um ++ [b]) uu up vu vp cur := by
  obtain ⟨o, h1, h2⟩ := run_update keyB (ev := evB) Try.underlying139 h.hM (fun p hp => h.l128 p.1 (mem_zipIdx hp)) b hb um.length
  rw [zipIdx_put _ hin] at h2
  refine ⟨o, h1, h.keyed h2 (fun c hc => ?_)⟩
  rcases List.mem_append.1 hc with hc | hc
  · exact h.l128 c hc
  · rw [List.mem_singleton.1 hc]; exact hb
theorem flat_get : ∀ (ul : List (List Nat)) (k j : Nat), (∀ b ∈ ul, b.length = 128) → k < ul.length → j < 128 → (ul.flatMap (natCells .u16))[k * 128 + j]? = some (.int .u16 ((ul.getD k []).getD j 0 : Nat))
  | [], k, j, _, h, _ => by simp at h
  | b :: ul, 0, j, hl, _, hj => by
    have hb := hl b List.mem_cons_self
    rw [List.flatMap_cons, Nat.zero_mul, Nat.zero_add, List.getElem?_append_left (by rw [natCells_len]; omega), natCells_get _ _ _ (by omega)]
    rfl
  | b :: ul, k + 1, j, hl, hk, hj => by
    have hb := hl b List.mem_cons_self
    have ih := flat_get ul k j (fun c hc => hl c (List.mem_cons_of_mem _ hc)) (by simpa using hk) hj
    rw [List.flatMap_cons, List.getElem?_append_right (by rw [natCells_len]; omega), natCells_len, hb, show (k + 1) * 128 + j - 128 = k * 128 + j from by omega, ih]
    rfl
theorem MadeSt.done (h : MadeSt w0 W T M B wh um um um vu vp cur) {bl : List (List Nat)} (hc : (wh, um) = canonB bl) (hl : bl.length = 8704) (h16 : ∀ b ∈ bl, ∀ j, b.getD j 0 ≤ 65535) : ∃ g c g' c', TabIn W T g c g' c' (tabOf bl) := by
  have hok := canonB_ok bl
  rw [← hc] at hok
  have hwl : wh.length = 8704 := by rw [← hl]; exact hok.len
  have hpos : 0 < um.length := by
    have := (hok.at_ 0 (by omega)).1
    exact Nat.lt_of_le_of_lt (Nat.zero_le _) this
  have hfew : um.length ≤ bl.length := hok.few
  obtain ⟨g, c, rfl, hgb, hgl⟩ := h.hu.form hpos
  obtain ⟨g', c', rfl, _, _⟩ := h.hp.form (by simpa using hpos)
  have e1 : (tabOf bl).which = wh := by unfold tabOf; rw [← hc]
  have e2 : (tabOf bl).unlike = um := by unfold tabOf; rw [← hc]
  have e3 : (tabOf bl).plain = um.map flatB := by unfold tabOf; rw [← hc]
  have hcap : um.length ≤ c := by
    rcases h.hu.2 with ⟨h', _⟩ | ⟨_, _, _, h', _, _, hh, _⟩
    · cases h'
    · injection h' with _ h' h''; omega
  have hcap' : um.length ≤ c' := by
    rcases h.hp.2 with ⟨h', _⟩ | ⟨_, _, _, h', _, _, hh, _⟩
    · cases h'
    · injection h' with _ h' h''; omega
  refine ⟨g, c, g', c', { len := by rw [e1]; exact hwl, plen := by rw [e3, e2]; simp, cap := by rw [e2]; exact hcap, cap' := by rw [e2]; exact hcap', few := by rw [e2]; omega, idx := ?_, blk := ?_, num := ?_, hw := ?_, hu := ?_, hp := ?_, hub := ?_, hpb := ?_ }⟩
  · intro i hi; rw [e1, e2]; exact (hok.at_ i (by omega)).1
  · intro k hk
    rw [e2] at hk ⊢
    refine h.l128 _ ?_
    rw [List.getD_eq_getElem?_getD, List.getElem?_eq_getElem hk]; exact List.getElem_mem hk
  · intro k j hk hj
    rw [e2] at hk ⊢
    refine h16 _ ((hok.mem _).1 ?_) j
    rw [List.getD_eq_getElem?_getD, List.getElem?_eq_getElem hk]; exact List.getElem_mem hk
  · intro i hi
    rw [h.hT.cell i, e1, whCells, hwl, Nat.sub_self, List.replicate_zero, List.append_nil, List.getElem?_append_left (by rw [natCells_len]; omega), natCells_get _ _ _ (by omega)]
  · rw [h.hT.cell, whCells_u h.wl, e2]
  · rw [h.hT.cell, whCells_p h.wl, e2]
  · intro k j hk hj
    rw [e2] at hk ⊢
    have := h.hu.cells (g := g) rfl (k * 128 + j) _ (flat_get um k j h.l128 hk hj)
    rwa [add_plain] at this
  · intro k hk
    rw [e2] at hk
    have := h.hp.cells (g := g') rfl k (.bool (flatB (um.getD k []))) (by simp [List.getD_eq_getElem?_getD, List.getElem?_eq_getElem hk])
    rw [add_plain] at this
    rw [this, e3]
    simp [List.getD_eq_getElem?_getD, List.getElem?_eq_getElem hk]
end

def postMade (w0 : World) (Pr : Nat → Prop) (S : Nat → World → Prop) (bs : Nat → List Nat) (e : Ending) (w' : World) : Prop :=
  ∃ b g c g' c', e = .returned (.pointer (some ⟨b, 0, none⟩)) ∧ TabIn w' b g c g' c' (tabOf ((List.range 8704).map bs)) ∧ S 8704 w' ∧ Keeps Pr w0 w'

theorem made_start (w0 : World) : MadeSt w0 (((w0.alloc (.cells (whCells [] (.slice none 0 0) (.slice none 0 0)).toArray 96)).alloc (.map #[] 0)).alloc (.cells (natCells .u16 zeros128).toArray 91)) w0.heap.size (w0.heap.size + 1) (w0.heap.size + 2) [] [] [] [] (.slice none 0 0) (.slice none 0 0) zeros128 := by
  have hM := mapAt_new (w0.alloc (.cells (whCells [] (.slice none 0 0) (.slice none 0 0)).toArray 96)) ekB evB
  have hB := blk_new ((w0.alloc (.cells (whCells [] (.slice none 0 0) (.slice none 0 0)).toArray 96)).alloc (.map #[] 0)) (natCells .u16 zeros128) 91
  simp only [alloc_size] at hM hB
  refine ⟨((blk_new w0 _ _).alloc _).alloc _, ?_, hB, ?_, ?_, ?_, ?_, ?_, ?_, ?_, ?_, ?_⟩
  · exact hM.block (Below.heap_alloc _ _ _ (by simp))
  · exact World.ownsRow_nil _ _ _ _
  · exact World.ownsRow_nil _ _ _ _
  · simp [Value.ownBlock]
  all_goals simp
  all_goals omega

end Go.Proofs.Ytajmbafljncjcaa.Stage
