/-
  The deterministic machine over labels against the model: whatever is compiled is right.
-/
import Derived.Test.YtkbjonoiecljiaaGreatDoorDxOper
namespace Go.Dx
open Go Go.RowKit

section
variable {C : CE}

theorem compConvert_ok {s t : TypeId} {y : Operand} {x : X} {d : D} (hx : compX C y = some x) (h : compConvert C s t x = some d) : OpOk C (.convert s t y) d := by
  unfold compConvert at h
  split at h
  · rename_i k1 k hs ht
    cases h; exact toInt_ok hs ht hx
  · rename_i k hs ht
    cases h; exact runeStr_ok hs ht hx
  · rename_i hs ht
    cases h; exact strSame_ok hs ht hx
  · rename_i e hs ht
    split at h
    · rename_i he hn
      cases h; exact EOk.of (eff_strBytes hs ht he hx) nofun
    · cases h
  · rename_i e hs ht
    split at h
    · rename_i he hn
      cases h; exact rd_bytes hs he ht hx
    · cases h
  · rename_i e hs ht
    split at h
    · rename_i n hn
      cases h; exact rd_ptrUnsafe hs ht hn hx
    · cases h
  · rename_i u hs ht
    split at h
    · rename_i n hn
      cases h; exact rd_unsafePtr hs ht hn hx
    · cases h
  · cases h

theorem blt_pos {n : Nat} (h : Nat.blt 0 n = true) : 0 < n := by simpa using h

theorem compBuiltin_ok {b : Builtin} {args : Array Operand} {ts : Array TypeId} {xs : List X} {d : D} (hx : compXs C args.toList = some xs) (h : compBuiltin C b ts.toList xs = some d) :
    OpOk C (.call { callee := .builtin b, args := args, argTypes := ts }) d := by
  generalize hts : ts.toList = tl at h
  unfold compBuiltin at h
  split at h
  · rename_i x t rest
    split at h
    · rename_i hu; cases h; exact lenStr_ok hts hu hx
    · rename_i e hu; cases h; exact lenSlice_ok hts hu hx
    · rename_i n e hu; cases h; exact lenArr_ok hts hu hx
    · rename_i k e hu; cases h; exact rd_mapLen hts hu hx
    · cases h
  · rename_i x t rest
    split at h
    · rename_i e hu; cases h; exact cap_ok hts hu hx
    · cases h
  · cases h; exact maxI_ok hx
  · cases h; exact minI_ok hx
  · cases h; exact sliceData_ok hx
  · rename_i x n t u
    split at h
    · rename_i e hu
      split at h
      · rename_i he hn; cases h; exact EOk.of (eff_unsafeStr hts hu hn hx) nofun
      · cases h
    · cases h
  · rename_i s x t u
    split at h
    · rename_i e ud ht hu
      simp only [ob_some, chk_some, Bool.and_eq_true] at h
      obtain ⟨size, hs, bytes, hb, z, hz, ⟨⟨h0, hb0⟩, hzs⟩, h⟩ := h
      have h0 := blt_pos h0
      have hb0 := blt_pos hb0
      have hzs := Nat.eq_of_beq_eq_true hzs
      split at h
      · rename_i k; cases h; exact EOk.of (eff_appendZeros hts ht hu hs hb hz h0 hb0 hzs hx) nofun
      · rename_i e'; cases h; exact EOk.of (eff_append hts ht (.inl ⟨_, hu⟩) hs hb hz h0 hb0 hzs hx) nofun
      · cases h; exact EOk.of (eff_append hts ht (.inr hu) hs hb hz h0 hb0 hzs hx) nofun
      · cases h
    · cases h
  · rename_i dd s t rest
    split at h
    · rename_i e hu
      simp only [ob_some, Option.some.injEq] at h
      obtain ⟨size, hs, rfl⟩ := h
      exact EOk.of (eff_copy hts hu hs hx) nofun
    · cases h
  · rename_i x t rest
    split at h
    · rename_i k e hu; cases h; exact EOk.of (eff_clearMap hts hu hx) nofun
    · cases h
  · rename_i m k t rest
    split at h
    · rename_i kt e hu; cases h; exact EOk.of (eff_delete hts hu hx) nofun
    · cases h
  · cases h

theorem compOp_ok {o : Op} {d : D} (h : compOp? C o = some d) : OpOk C o d := by
  cases o with
  | move y => simp only [compOp?, ob_some, Option.some.injEq] at h; obtain ⟨x, hx, rfl⟩ := h; exact move_ok hx
  | assign y => simp only [compOp?, ob_some, Option.some.injEq] at h; obtain ⟨x, hx, rfl⟩ := h; exact assign_ok hx
  | pick c a b => simp only [compOp?, ob_some, Option.some.injEq] at h; obtain ⟨x, hx, y, hy, z, hz, rfl⟩ := h; exact pick_ok hx hy hz
  | build t ps =>
    simp only [compOp?, ob_some] at h
    obtain ⟨z, hz, h⟩ := h
    split at h
    · rename_i fs hu
      simp only [ob_some, Option.some.injEq] at h
      obtain ⟨pl, hp, l, hl, rfl⟩ := h
      exact buildStruct_ok hu hz hp hl
    · rename_i n e hu
      simp only [ob_some, Option.some.injEq] at h
      obtain ⟨n, hn, l, hl, rfl⟩ := h
      exact buildArr_ok hu hz hn hl
    · cases h
  | nilCheck y => simp only [compOp?, ob_some, Option.some.injEq] at h; obtain ⟨x, hx, rfl⟩ := h; exact nilCheck_ok hx
  | binOp op t y z u => simp only [compOp?, ob_some, Option.some.injEq] at h; obtain ⟨x, hx, x2, hx2, rfl⟩ := h; exact bin_ok hx hx2
  | unOp op t y => simp only [compOp?, ob_some, Option.some.injEq] at h; obtain ⟨x, hx, rfl⟩ := h; exact un_ok hx
  | convert s t y => simp only [compOp?, ob_some] at h; obtain ⟨x, hx, h⟩ := h; exact compConvert_ok hx h
  | makeInterface t y =>
    simp only [compOp?] at h
    split at h
    · cases h
    · rename_i dd hn hu
      simp only [ob_some, Option.some.injEq] at h
      obtain ⟨x, hx, rfl⟩ := h
      exact mkIface_ok hu (fun ms e => hn ms e) hx
    · cases h
  | makeFunc f a b =>
    cases f with
    | func f => simp only [compOp?, ob_some, Option.some.injEq] at h; obtain ⟨x, hx, x2, hx2, rfl⟩ := h; exact mkFunc_ok hx hx2
    | _ => simp [compOp?] at h
  | slice t y lo hi mx =>
    simp only [compOp?, ob_some] at h
    obtain ⟨x, hx, l, hl, hh, hhi, m, hm, h⟩ := h
    split at h
    · rename_i hu
      split at h
      · cases h
        cases mx with
        | none => exact sliceStr_ok hu hx hl hhi
        | some q => simp only [compXo, ob_some] at hm; obtain ⟨_, _, hm⟩ := hm; cases hm
      · cases h
    · rename_i e hu
      simp only [ob_some, chk_some, Option.some.injEq] at h
      obtain ⟨n, hn, hd, rfl⟩ := h
      exact slice_ok hu hn hx hl hhi hm hd
    · rename_i n e hu
      simp only [ob_some, chk_some, Option.some.injEq] at h
      obtain ⟨size, hn, hd, rfl⟩ := h
      exact sliceArr_ok hu hn hx hl hhi hm hd
    · cases h
  | fieldAddr t y f =>
    simp only [compOp?] at h
    split at h
    · rename_i fs hu
      simp only [ob_some, chk_some, Option.some.injEq] at h
      obtain ⟨fd, hf, n, hn, h0, x, hx, rfl⟩ := h
      exact fieldAddr_ok hu hf hn h0 hx
    · cases h
  | field t y f =>
    simp only [compOp?] at h
    split at h
    · rename_i fs hu
      simp only [ob_some, Option.some.injEq] at h
      obtain ⟨fd, hf, rd, hrd, x, hx, rfl⟩ := h
      exact field_ok hu hf hrd hx
    · cases h
  | indexAddr t y i =>
    simp only [compOp?, ob_some] at h
    obtain ⟨x, hx, j, hj, h⟩ := h
    split at h
    · rename_i e hu
      simp only [ob_some, Option.some.injEq] at h
      obtain ⟨n, hn, rfl⟩ := h
      exact indexAddr_ok hu hn hx hj
    · rename_i n e hu
      simp only [ob_some, Option.some.injEq] at h
      obtain ⟨size, hn, rfl⟩ := h
      exact indexArr_ok hu hn hx hj
    · cases h
  | index t y i =>
    simp only [compOp?, ob_some] at h
    obtain ⟨x, hx, j, hj, h⟩ := h
    split at h
    · rename_i hu; cases h; exact indexStr_ok hu hx hj
    · rename_i n e hu
      simp only [ob_some, Option.some.injEq] at h
      obtain ⟨size, hn, rd, hrd, rfl⟩ := h
      exact indexAgg_ok hu hn hrd hx hj
    · cases h
  | typeAssert y xt t ok =>
    simp only [compOp?, ob_some] at h
    obtain ⟨x, hx, z, hz, h⟩ := h
    split at h
    · rename_i want hu; cases h; exact assertI_ok hu hz hx
    · rename_i dd hn hu; cases h; exact assertT_ok hu (fun ms e => hn ms e) hz hx
    · cases h
  | extract y i => simp only [compOp?, ob_some, Option.some.injEq] at h; obtain ⟨x, hx, rfl⟩ := h; exact extract_ok hx
  | load t y => simp only [compOp?, ob_some, Option.some.injEq] at h; obtain ⟨rd, hrd, x, hx, rfl⟩ := h; exact rd_load hrd hx
  | lookup t m k ok =>
    simp only [compOp?, ob_some] at h
    obtain ⟨x, hx, j, hj, h⟩ := h
    split at h
    · rename_i kt et hu
      simp only [ob_some, Option.some.injEq] at h
      obtain ⟨z, hz, rfl⟩ := h
      exact rd_lookup hu hz hx hj
    · cases h
  | alloc t => simp only [compOp?, ob_some, Option.some.injEq] at h; obtain ⟨z, hz, rfl⟩ := h; exact EOk.mk (eff_alloc hz) fun t' cs e => by cases e; exact ⟨z, rfl, hz, rfl⟩
  | box t y => simp only [compOp?, ob_some, Option.some.injEq] at h; obtain ⟨x, hx, rfl⟩ := h; exact EOk.of (eff_box hx) nofun
  | buildSlice t n ps =>
    simp only [compOp?] at h
    split at h
    · rename_i e hu
      simp only [ob_some, chk_some, Option.some.injEq, Bool.and_eq_true] at h
      obtain ⟨size, hs, z, hz, ⟨⟨hn, hzs⟩, h0⟩, l, hl, rfl⟩ := h
      exact EOk.of (eff_buildSlice hu hs hz (Nat.le_of_ble_eq_true hn) (Nat.eq_of_beq_eq_true hzs) (blt_pos h0) hl) nofun
    · cases h
  | store t a y => simp only [compOp?, ob_some, Option.some.injEq] at h; obtain ⟨n, hn, x, hx, x2, hx2, rfl⟩ := h; exact EOk.of (eff_store hn hx hx2) nofun
  | makeMap t r =>
    cases r with
    | none => simp only [compOp?, Option.some.injEq] at h; subst h; exact EOk.of (eff_makeMap) nofun
    | some r => simp [compOp?] at h
  | makeSlice t n c =>
    simp only [compOp?] at h
    split at h
    · rename_i e hu
      simp only [ob_some, Option.some.injEq] at h
      obtain ⟨size, hs, bytes, hb, z, hz, x, hx, x2, hx2, rfl⟩ := h
      exact EOk.of (eff_makeSlice hu hs hb hz hx hx2) nofun
    · cases h
  | mapUpdate t m k x =>
    simp only [compOp?] at h
    split at h
    · rename_i kt et hu
      simp only [ob_some, Option.some.injEq] at h
      obtain ⟨m', hm, k', hk, x', hx, rfl⟩ := h
      exact EOk.of (eff_mapUpdate hu hm hk hx) nofun
    · cases h
  | insert t m k x =>
    simp only [compOp?] at h
    split at h
    · rename_i kt et hu
      simp only [ob_some, Option.some.injEq] at h
      obtain ⟨m', hm, k', hk, x', hx, rfl⟩ := h
      exact EOk.of (eff_insert hu hm hk hx) nofun
    · cases h
  | mapEntry t m k =>
    simp only [compOp?] at h
    split at h
    · rename_i kt et hu
      simp only [ob_some, Option.some.injEq] at h
      obtain ⟨z, hz, m', hm, k', hk, rfl⟩ := h
      exact EOk.of (eff_mapEntry hu hz hm hk) nofun
    · cases h
  | entryStore t m s x => simp only [compOp?, ob_some, Option.some.injEq] at h; obtain ⟨m', hm, s', hs, x', hx, rfl⟩ := h; exact EOk.of (eff_entryStore hm hs hx) nofun
  | range t y =>
    simp only [compOp?, ob_some] at h
    obtain ⟨x, hx, h⟩ := h
    split at h
    · rename_i hu; cases h; exact EOk.of (eff_rangeStr hu hx) nofun
    · rename_i k e hu; cases h; exact EOk.of (eff_rangeMap hu hx) nofun
    · cases h
  | next y s =>
    cases s with
    | false => simp only [compOp?, ob_some, Option.some.injEq] at h; obtain ⟨x, hx, rfl⟩ := h; exact EOk.of (eff_next hx) nofun
    | true => simp [compOp?] at h
  | call c =>
    simp only [compOp?] at h
    split at h
    · rename_i b hc
      simp only [ob_some] at h
      obtain ⟨xs, hxs, h⟩ := h
      have := compBuiltin_ok (args := c.args) (ts := c.argTypes) hxs h
      obtain ⟨callee, args, ts⟩ := c
      simp only at hc
      subst hc
      exact this
    · simp only [ob_some, Option.some.injEq] at h
      obtain ⟨q, hq, rfl⟩ := h
      exact comp_call hq
  | defer c =>
    simp only [compOp?] at h
    split at h
    · rename_i fx hc
      simp only [ob_some, Option.some.injEq] at h
      obtain ⟨q, hq, rfl⟩ := h
      exact comp_defer hc hq
    · cases h
  | _ => simp [compOp?] at h

end
end Go.Dx
