/- One step of a counter in a map: the look-up, the entry, the store, in whatever order. -/
import Derived.Test.YtjglgcgkmfbdpaaDoorWords
import Derived.Maps.OwnOps
import Derived.Maps.OwnSet
import Derived.Maps.Views
import Derived.WideKeyEntry
import Derived.DeepKeys4
namespace Go.Proofs.YtjglgcgkmfbdpaaDoor
open Go.RowKit Go.ChangeShapes Go.WideShapes Go.MapKept Go.ChangeMaps
open Go.WideMaps (KeyLaw)
open Go.WideElems (Fit findIdx_born findIdx_arr modify_last set_self)

theorem own_bump {H : Type} {P : Program} {t k e : TypeId} {w : World} {b n : Nat} {D : DataW H} (K : KeyLaw P k) (ht : P.underlying t = some (.map k e)) (he : P.underlying e = some (.int .i64)) (hz : ∀ u : World, (zeroValue e).run P u = .ok (.int .i64 0) u)
    (hown : w.ownsMap P k (plainElem P e) b n D) (hn : n < maxLen) {key : Value} {kl : Lit} (hkey : keyOf P k key = some kl) :
    ∃ (c : Int) (v0 : Value) (st : Nat) (w1 : World), (Lit.int .i64 c).wf = true ∧ D.atKey kl (.lit (.int .i64 0)) = .lit (.int .i64 c) ∧
      (Instr.lookup t (.map (some b)) key false).run P w = .ok (.int .i64 c) w ∧ (Instr.mapEntry t (.map (some b)) key).run P w = .ok (.tuple #[v0, .int .i64 (st : Int)]) w1 ∧
      (Instr.lookup t (.map (some b)) key false).run P w1 = .ok (.int .i64 c) w1 ∧ w.grownBy w1 (some b) ∧
      ∀ c' : Int, (Lit.int .i64 c').wf = true → ∃ w2, (Instr.entryStore t (.map (some b)) (.int .i64 (st : Int)) (.int .i64 c')).run P w1 = .ok () w2 ∧ w2.ownsMap P k (plainElem P e) b (n + 1) (D.put kl (.lit (.int .i64 c'))) ∧ w.grownBy w2 (some b) := by
  have hw0 : (Lit.int .i64 0).wf = true := by decide
  have KK := Maps.Keyed.of_law K
  obtain ⟨c, hl, hat, hwc⟩ := hown.lookup_int KK ht he (hz w) hkey
  have hown0 := hown
  obtain ⟨es, clock, hb, F, hs, hD⟩ := hown
  obtain ⟨s1, s2, _⟩ := F.stamped
  have gb1 : ∀ o : Obj, w.grownBy (setBlock w b o) (some b) := fun o => ⟨rfl, rfl, rfl, by simp [setBlock], fun i _ hi => heap_setBlock_other hb _ (fun e => hi (by rw [e]))⟩
  have back : ∀ (es1 : Array MapEntry) (clock1 : Nat) (c' : Int) (es' : Array MapEntry) (clock' : Nat), (Lit.int .i64 c').wf = true → (Instr.mapUpdate t (.map (some b)) key (.int .i64 c')).run P w = .ok () (setBlock w b (.map es' clock')) →
      (setBlock (setBlock w b (.map es1 clock1)) b (.map es' clock')).ownsMap P k (plainElem P e) b (n + 1) (D.put kl (.lit (.int .i64 c'))) ∧ w.grownBy (setBlock (setBlock w b (.map es1 clock1)) b (.map es' clock')) (some b) := by
    intro es1 clock1 c' es' clock' hwf hrun
    obtain ⟨w', hrun', hown', _⟩ := hown0.update KK ht hn hkey (plainElem_int he hwf)
    rw [hrun] at hrun'
    injection hrun' with _ hw'
    subst hw'
    obtain ⟨es2, ck2, h2, h3⟩ := hown'
    rw [heap_setBlock_same hb] at h2
    injection h2 with h2
    injection h2 with h2a h2b
    subst h2a h2b
    have hb1 : (setBlock w b (.map es1 clock1)).heap[b]? = some (.map es1 clock1) := heap_setBlock_same hb _
    refine ⟨⟨es', clock', heap_setBlock_same hb1 _, h3⟩, ?_⟩
    exact ⟨rfl, rfl, rfl, by simp [setBlock], fun i _ hi => (heap_setBlock_other hb1 _ (fun e => hi (by rw [e]))).trans (heap_setBlock_other hb _ (fun e => hi (by rw [e])))⟩
  rcases K.find w hkey es.toList F.keys with ⟨h1, h2⟩ | ⟨j, e0, h1, h2, h3⟩
  · have hc0 : c = 0 := by
      have h := WideElems.atKey_none K F hkey h2 (.lit (.int .i64 0))
      rw [← hD, hat] at h
      injection h with h
      injection h
    have hup : (Instr.mapUpdate t (.map (some b)) key (.int .i64 0)).run P w = .ok () (setBlock w b (.map (es.push ⟨key, .int .i64 0, clock⟩) (clock + 1))) := by
      simp [Instr.mapUpdate, run_underlying ht, MapKept.run_getObj_map hb, K.check w false hkey, h1, MapKept.run_setObj_map _ hb, Result.andThen, setBlock]
    obtain ⟨w', hrun', hown', _⟩ := hown0.update KK ht hn hkey (plainElem_int he hw0)
    rw [hup] at hrun'
    injection hrun' with _ hw'
    subst hw'
    obtain ⟨c1, hl1, hat1, _⟩ := hown'.lookup_int KK ht he (hz _) hkey
    have hc1 : c1 = 0 := by
      rw [Maps.atKey_put_same hown0.isMap (KK.key hkey)] at hat1
      injection hat1 with h
      injection h with _ h
      exact h.symm
    subst hc0 hc1
    refine ⟨0, .int .i64 0, clock, setBlock w b (.map (es.push ⟨key, .int .i64 0, clock⟩) (clock + 1)), hw0, hat, hl, ?_, hl1, gb1 _, fun c' hwf => ?_⟩
    · simp [Instr.mapEntry, run_underlying ht, MapKept.run_getObj_map hb, K.check w false hkey, h1, hz, MapKept.run_setObj_map _ hb, Result.andThen, setBlock, goInt]
    · have hb1 : (setBlock w b (.map (es.push ⟨key, .int .i64 0, clock⟩) (clock + 1))).heap[b]? = some (.map (es.push ⟨key, .int .i64 0, clock⟩) (clock + 1)) := heap_setBlock_same hb _
      have hup' : (Instr.mapUpdate t (.map (some b)) key (.int .i64 c')).run P w = .ok () (setBlock w b (.map (es.push ⟨key, .int .i64 c', clock⟩) (clock + 1))) := by
        simp [Instr.mapUpdate, run_underlying ht, MapKept.run_getObj_map hb, K.check w false hkey, h1, MapKept.run_setObj_map _ hb, Result.andThen, setBlock]
      have hidx : (es.push ⟨key, .int .i64 0, clock⟩).findIdx? (fun e => ((e.born : Nat) : Int) == ((clock : Nat) : Int)) = some es.size := by
        rw [findIdx_arr]
        have := findIdx_born (l := (es.push ⟨key, .int .i64 0, clock⟩).toList) (j := es.size) (e0 := ⟨key, .int .i64 0, clock⟩) (by
          simp only [Array.toList_push, List.map_append, List.map_cons, List.map_nil]
          refine List.nodup_append.2 ⟨s2, by simp, fun a ha c hc e1 => ?_⟩
          simp only [List.mem_singleton] at hc
          obtain ⟨x, hx, rfl⟩ := List.mem_map.1 ha
          have := s1 x hx
          omega) (by simp)
        exact this
      have hmod : (es.push ⟨key, .int .i64 0, clock⟩).modify es.size (fun e => { e with val := .int .i64 c' }) = es.push ⟨key, .int .i64 c', clock⟩ := by
        apply Array.ext'
        rw [Array.toList_modify, Array.toList_push, Array.toList_push, ← Array.length_toList, modify_last]
      obtain ⟨r1, r2⟩ := back (es.push ⟨key, .int .i64 0, clock⟩) (clock + 1) c' _ _ hwf hup'
      have hst : ∀ w2 : World, w2.heap[b]? = some (.map (es.push ⟨key, .int .i64 0, clock⟩) (clock + 1)) → (Instr.entryStore t (.map (some b)) (.int .i64 (clock : Int)) (.int .i64 c')).run P w2 = .ok () (setBlock w2 b (.map (es.push ⟨key, .int .i64 c', clock⟩) (clock + 1))) := fun w2 hw2 => by
        simp [Instr.entryStore, MapKept.run_getObj_map hw2, asInt, asIntOf, hidx, hmod, MapKept.run_setObj_map _ hw2, Result.andThen, setBlock]
      exact ⟨_, hst _ hb1, r1, r2⟩
  · have hj : es[j]? = some e0 := by simpa using h2
    have hsame : es.modify j (fun e => { e with key := key }) = es := by
      apply Array.ext'
      rw [Array.toList_modify, modify_eq_set _ _ _ _ h2]
      have : ({ e0 with key := key } : MapEntry) = e0 := by rw [← h3]
      rw [this]
      exact set_self _ _ _ h2
    have hown1 : (setBlock w b (.map es clock)).ownsMap P k (plainElem P e) b n D := ⟨es, clock, heap_setBlock_same hb _, F, hs, hD⟩
    obtain ⟨c1, hl1, hat1, _⟩ := hown1.lookup_int KK ht he (hz _) hkey
    have hc1 : c1 = c := by
      rw [hat] at hat1
      injection hat1 with h
      injection h with _ h
      exact h.symm
    subst hc1
    refine ⟨c1, e0.val, e0.born, setBlock w b (.map es clock), hwc, hat, hl, ?_, hl1, gb1 _, fun c' hwf => ?_⟩
    · simp [Instr.mapEntry, run_underlying ht, MapKept.run_getObj_map hb, K.check w false hkey, h1, hj, h3, K.stays w hkey, hsame, MapKept.run_setObj_map _ hb, Result.andThen, setBlock, goInt]
    · have hb1 : (setBlock w b (.map es clock)).heap[b]? = some (.map es clock) := heap_setBlock_same hb _
      have hup' : (Instr.mapUpdate t (.map (some b)) key (.int .i64 c')).run P w = .ok () (setBlock w b (.map (es.modify j fun e' => { e' with key := key, val := .int .i64 c' }) clock)) := by
        simp [Instr.mapUpdate, run_underlying ht, MapKept.run_getObj_map hb, K.check w false hkey, h1, hj, h3, K.stays w hkey, MapKept.run_setObj_map _ hb, Result.andThen, setBlock]
      have hidx : es.findIdx? (fun e => ((e.born : Nat) : Int) == ((e0.born : Nat) : Int)) = some j := by
        rw [findIdx_arr]
        exact findIdx_born s2 h2
      have hmod : es.modify j (fun e => { e with val := .int .i64 c' }) = es.modify j (fun e' => { e' with key := key, val := .int .i64 c' }) := by
        apply Array.ext'
        rw [Array.toList_modify, Array.toList_modify, modify_eq_set _ _ _ _ h2, modify_eq_set _ _ _ _ h2, ← h3]
      obtain ⟨r1, r2⟩ := back es clock c' _ _ hwf hup'
      have hst : ∀ w2 : World, w2.heap[b]? = some (.map es clock) → (Instr.entryStore t (.map (some b)) (.int .i64 (e0.born : Int)) (.int .i64 c')).run P w2 = .ok () (setBlock w2 b (.map (es.modify j fun e' => { e' with key := key, val := .int .i64 c' }) clock)) := fun w2 hw2 => by
        simp [Instr.entryStore, MapKept.run_getObj_map hw2, asInt, asIntOf, hidx, hmod, MapKept.run_setObj_map _ hw2, Result.andThen, setBlock]
      exact ⟨_, hst _ hb1, r1, r2⟩
end Go.Proofs.YtjglgcgkmfbdpaaDoor
