/- The reference's ways as counts in lists; its count of a term. -/
import Derived.Test.YtjglgcgkmfbdpaaDoorMicP
namespace Go.Proofs.YtjglgcgkmfbdpaaDoor
open Go.RowKit

def gen (l : Int) : Nat → Int → List T2
  | 0, n => if n = 0 then [(0, 0)] else []
  | d + 1, n => if n < 0 ∨ 2 * ((d : Int) + 1) < n then [] else
      gen l d n ++ (gen l d (n - 1)).map (fun t => (t.1 + (l - d), t.2 + 1)) ++ (gen l d (n - 1)).map (fun t => (t.1 + (l - d), t.2 - 1)) ++ (gen l d (n - 2)).map (fun t => (t.1 + 2 * (l - d), t.2))
theorem cnt_app (a b : List T2) (o s : Int) : cnt (a ++ b) o s = cnt a o s + cnt b o s := by unfold cnt; rw [List.countP_append]; omega
theorem cnt_map (a : List T2) (x y o s : Int) : cnt (a.map fun t => (t.1 + x, t.2 + y)) o s = cnt a (o - x) (s - y) := by
  unfold cnt
  rw [List.countP_map]
  congr 1
  refine List.countP_congr fun t _ => ?_
  simp only [Function.comp, beq_iff_eq, Prod.mk.injEq]
  obtain ⟨t1, t2⟩ := t
  simp only [Prod.mk.injEq]
  omega
theorem ways_gen (l : Int) : ∀ (d : Nat) (n o s : Int), ways l d n o s = cnt (gen l d n) o s := by
  intro d
  induction d with
  | zero =>
    intro n o s
    unfold ways gen
    by_cases hn : n = 0
    · by_cases h : o = 0 ∧ s = 0
      · obtain ⟨rfl, rfl⟩ := h
        subst hn
        rfl
      · rw [if_neg (fun h' => h h'.2), if_pos hn]
        have : ((0, 0) == ((o, s) : T2)) = false := by
          rw [beq_eq_false_iff_ne]; intro e; injection e with e1 e2; exact h ⟨e1.symm, e2.symm⟩
        unfold cnt
        rw [List.countP_cons, this]; rfl
    · rw [if_neg (fun h' => hn h'.1), if_neg hn]; rfl
  | succ d ih =>
    intro n o s
    unfold ways gen
    by_cases h : n < 0 ∨ 2 * ((d : Int) + 1) < n
    · rw [if_pos h, if_pos h]; rfl
    · rw [if_neg h, if_neg h, cnt_app, cnt_app, cnt_app, ih, ih, ih, ih]
      have e1 := cnt_map (gen l d (n - 1)) (l - d) 1 o s
      have e2 := cnt_map (gen l d (n - 1)) (l - d) (-1) o s
      have e3 := cnt_map (gen l d (n - 2)) (2 * (l - d)) 0 o s
      simp only [Int.sub_neg, Int.sub_zero, Int.add_zero, ← Int.sub_eq_add_neg] at e1 e2 e3
      rw [e1, e2, e3]
def glit : Nat → Nat → List T2
  | 0, 0 => decL 1 210
  | 0, 1 => decL 2 83811
  | 0, 2 => decL 1 210
  | 1, 0 => decL 1 210
  | 1, 1 => decL 6 1940263009851831
  | 1, 2 => decL 15 457605118260462349534054508251556893050
  | 1, 3 => decL 20 4657220210065583385820489788037220808843048293059851
  | 1, 4 => decL 15 457605117503605446099880248589604893050
  | 1, 5 => decL 6 1940263009851831
  | 1, 6 => decL 1 210
  | 2, 0 => decL 1 210
  | 2, 1 => decL 10 44414713002081576293059851
  | 2, 2 => decL 45 403478516870644851417630438055945342961832818025592478831238656412416854918195951239576887028765574154758878123309090
  | 2, 3 => decL 120 482695145671476715250719044987040149936293837577117472953436331864429566864062386213548706169208330848683608573722628614249231912513948126336984972961410985464963187280836831269571591712350346869129668967039048658743484906928567259961605587358129054075173852695149923339049643536196429637661280959218988142683911
  | 2, 4 => decL 210 611061535786523907306993703586228951388862656913981189477031549724802632289434652840302780391656427630993176368357128187130808318177782353163367967338336750952008781244576770932167618202597873686214260419553430855296380386246449310342899920481223002128983552283292898860775013998752393485740894495523126925153006789784340423625343693891975955844933447812417730984817861906641800278976790506952603941920620599087844188676433187966561509597033060248633659154861714669267261143177745333811035292280646896140747957568306756738278180080749842737725130
  | 2, 5 => decL 252 11683147846289129885225213461556236898387036184400355381137795411044737763146078626886470208935319565028147257895151553826696371456744849482227123148201388845157986107762643692217292393262162247846728804038033918129537177203883748462969027718111221797489781682009504175027004260665136585383033660412417864992072289734950387554871012021155880671481206228615021936336313263763689983962487833364805865167724053954898515436418921020021984310326291905514834711773835487051960603109453794814319210275933960581621096687214577578478446653749879628082391194176480405844614775859673784290245571699720895897480261443823008600552368377991703736806103088022829425891931
  | 2, 6 => decL 210 611061535786498724462701216187779072259590188937252450139504237872560303116841318213475540135158032561048424680382298758184078521371158143665093520113863821015614677975701910903304432336843210366091291706496478129314952337499151711782567021602663335747034050370446824152891241482667825251190028779532749179374279662397251098954738652006694292216905270876720850968753941766816525304375244850607526758944629717408858476726861770246987914101087152090670139378992199441881154974687711831767750979297870028455014698246785024784012919892712722737725130
  | 2, 7 => decL 120 482695145668024095013616498709919787803294137816407661394761362825957700660678172344273719827686811501221103243522683295693888670990841354996218720223494964920208083520767961308926532310253866386977645338460412983884942068036671170717247209554357487376177003915289481548451541790465612493286030752457516142683911
  | 2, 8 => decL 45 403478515998036737958989424386413848313937928543094145050394678714764547742669131120354815500753653885262096171309090
  | 2, 9 => decL 10 44414713002081576293059851
  | 2, 10 => decL 1 210
  | _, _ => []
theorem gen_0_0 : gen 0 1 0 = glit 0 0 := by decide +kernel
theorem gen_0_1 : gen 0 1 1 = glit 0 1 := by decide +kernel
theorem gen_0_2 : gen 0 1 2 = glit 0 2 := by decide +kernel
theorem gen_1_0 : gen 1 3 0 = glit 1 0 := by decide +kernel
theorem gen_1_1 : gen 1 3 1 = glit 1 1 := by decide +kernel
theorem gen_1_2 : gen 1 3 2 = glit 1 2 := by decide +kernel
theorem gen_1_3 : gen 1 3 3 = glit 1 3 := by decide +kernel
theorem gen_1_4 : gen 1 3 4 = glit 1 4 := by decide +kernel
theorem gen_1_5 : gen 1 3 5 = glit 1 5 := by decide +kernel
theorem gen_1_6 : gen 1 3 6 = glit 1 6 := by decide +kernel
theorem gen_2_0 : gen 2 5 0 = glit 2 0 := by decide +kernel
theorem gen_2_1 : gen 2 5 1 = glit 2 1 := by decide +kernel
theorem gen_2_2 : gen 2 5 2 = glit 2 2 := by decide +kernel
theorem gen_2_3 : gen 2 5 3 = glit 2 3 := by decide +kernel
theorem gen_2_4 : gen 2 5 4 = glit 2 4 := by decide +kernel
theorem gen_2_5 : gen 2 5 5 = glit 2 5 := by decide +kernel
theorem gen_2_6 : gen 2 5 6 = glit 2 6 := by decide +kernel
theorem gen_2_7 : gen 2 5 7 = glit 2 7 := by decide +kernel
theorem gen_2_8 : gen 2 5 8 = glit 2 8 := by decide +kernel
theorem gen_2_9 : gen 2 5 9 = glit 2 9 := by decide +kernel
theorem gen_2_10 : gen 2 5 10 = glit 2 10 := by decide +kernel
def tcG (ms : List T2) (o s : Int) : Int := cnt ms o s - cnt ms (o + 1) s - cnt ms o (s + 2) + cnt ms (o + 1) (s + 2)
theorem tcS_gen (l n : Nat) (o s : Int) : tcS l n o s = tcG (gen l (2 * l + 1) n) o s := by unfold tcS tcG mcS; rw [ways_gen, ways_gen, ways_gen, ways_gen]
theorem tc_0_0 : ∀ s : Fin 6, ∀ o : Fin 7, tcG (glit 0 0) (o.val : Int) (s.val : Int) = rep 0 0 s.val o.val := by decide +kernel
theorem tc_0_1 : ∀ s : Fin 6, ∀ o : Fin 7, tcG (glit 0 1) (o.val : Int) (s.val : Int) = rep 0 1 s.val o.val := by decide +kernel
theorem tc_0_2 : ∀ s : Fin 6, ∀ o : Fin 7, tcG (glit 0 2) (o.val : Int) (s.val : Int) = rep 0 2 s.val o.val := by decide +kernel
theorem tc_1_0 : ∀ s : Fin 6, ∀ o : Fin 7, tcG (glit 1 0) (o.val : Int) (s.val : Int) = rep 1 0 s.val o.val := by decide +kernel
theorem tc_1_1 : ∀ s : Fin 6, ∀ o : Fin 7, tcG (glit 1 1) (o.val : Int) (s.val : Int) = rep 1 1 s.val o.val := by decide +kernel
theorem tc_1_2 : ∀ s : Fin 6, ∀ o : Fin 7, tcG (glit 1 2) (o.val : Int) (s.val : Int) = rep 1 2 s.val o.val := by decide +kernel
theorem tc_1_3 : ∀ s : Fin 6, ∀ o : Fin 7, tcG (glit 1 3) (o.val : Int) (s.val : Int) = rep 1 3 s.val o.val := by decide +kernel
theorem tc_1_4 : ∀ s : Fin 6, ∀ o : Fin 7, tcG (glit 1 4) (o.val : Int) (s.val : Int) = rep 1 4 s.val o.val := by decide +kernel
theorem tc_1_5 : ∀ s : Fin 6, ∀ o : Fin 7, tcG (glit 1 5) (o.val : Int) (s.val : Int) = rep 1 5 s.val o.val := by decide +kernel
theorem tc_1_6 : ∀ s : Fin 6, ∀ o : Fin 7, tcG (glit 1 6) (o.val : Int) (s.val : Int) = rep 1 6 s.val o.val := by decide +kernel
theorem tc_2_0 : ∀ s : Fin 6, ∀ o : Fin 7, tcG (glit 2 0) (o.val : Int) (s.val : Int) = rep 2 0 s.val o.val := by decide +kernel
theorem tc_2_1 : ∀ s : Fin 6, ∀ o : Fin 7, tcG (glit 2 1) (o.val : Int) (s.val : Int) = rep 2 1 s.val o.val := by decide +kernel
theorem tc_2_2 : ∀ s : Fin 6, ∀ o : Fin 7, tcG (glit 2 2) (o.val : Int) (s.val : Int) = rep 2 2 s.val o.val := by decide +kernel
theorem tc_2_3 : ∀ s : Fin 6, ∀ o : Fin 7, tcG (glit 2 3) (o.val : Int) (s.val : Int) = rep 2 3 s.val o.val := by decide +kernel
theorem tc_2_4 : ∀ s : Fin 6, ∀ o : Fin 7, tcG (glit 2 4) (o.val : Int) (s.val : Int) = rep 2 4 s.val o.val := by decide +kernel
theorem tc_2_5 : ∀ s : Fin 6, ∀ o : Fin 7, tcG (glit 2 5) (o.val : Int) (s.val : Int) = rep 2 5 s.val o.val := by decide +kernel
theorem tc_2_6 : ∀ s : Fin 6, ∀ o : Fin 7, tcG (glit 2 6) (o.val : Int) (s.val : Int) = rep 2 6 s.val o.val := by decide +kernel
theorem tc_2_7 : ∀ s : Fin 6, ∀ o : Fin 7, tcG (glit 2 7) (o.val : Int) (s.val : Int) = rep 2 7 s.val o.val := by decide +kernel
theorem tc_2_8 : ∀ s : Fin 6, ∀ o : Fin 7, tcG (glit 2 8) (o.val : Int) (s.val : Int) = rep 2 8 s.val o.val := by decide +kernel
theorem tc_2_9 : ∀ s : Fin 6, ∀ o : Fin 7, tcG (glit 2 9) (o.val : Int) (s.val : Int) = rep 2 9 s.val o.val := by decide +kernel
theorem tc_2_10 : ∀ s : Fin 6, ∀ o : Fin 7, tcG (glit 2 10) (o.val : Int) (s.val : Int) = rep 2 10 s.val o.val := by decide +kernel
theorem tc_rep {l n : Nat} (hl : l ≤ 2) (hn : n ≤ capL l) (s : Fin 6) (o : Fin 7) : tcS l n (o.val : Int) (s.val : Int) = rep l n s.val o.val := by
  rw [tcS_gen]
  unfold capL at hn
  have h : l = 0 ∨ l = 1 ∨ l = 2 := by omega
  rcases h with rfl | rfl | rfl
  · have h : n = 0 ∨ n = 1 ∨ n = 2 := by omega
    rcases h with rfl | rfl | rfl
    · exact (congrArg (fun g => tcG g (o.val : Int) (s.val : Int)) gen_0_0).trans (tc_0_0 s o)
    · exact (congrArg (fun g => tcG g (o.val : Int) (s.val : Int)) gen_0_1).trans (tc_0_1 s o)
    · exact (congrArg (fun g => tcG g (o.val : Int) (s.val : Int)) gen_0_2).trans (tc_0_2 s o)
  · have h : n = 0 ∨ n = 1 ∨ n = 2 ∨ n = 3 ∨ n = 4 ∨ n = 5 ∨ n = 6 := by omega
    rcases h with rfl | rfl | rfl | rfl | rfl | rfl | rfl
    · exact (congrArg (fun g => tcG g (o.val : Int) (s.val : Int)) gen_1_0).trans (tc_1_0 s o)
    · exact (congrArg (fun g => tcG g (o.val : Int) (s.val : Int)) gen_1_1).trans (tc_1_1 s o)
    · exact (congrArg (fun g => tcG g (o.val : Int) (s.val : Int)) gen_1_2).trans (tc_1_2 s o)
    · exact (congrArg (fun g => tcG g (o.val : Int) (s.val : Int)) gen_1_3).trans (tc_1_3 s o)
    · exact (congrArg (fun g => tcG g (o.val : Int) (s.val : Int)) gen_1_4).trans (tc_1_4 s o)
    · exact (congrArg (fun g => tcG g (o.val : Int) (s.val : Int)) gen_1_5).trans (tc_1_5 s o)
    · exact (congrArg (fun g => tcG g (o.val : Int) (s.val : Int)) gen_1_6).trans (tc_1_6 s o)
  · have h : n = 0 ∨ n = 1 ∨ n = 2 ∨ n = 3 ∨ n = 4 ∨ n = 5 ∨ n = 6 ∨ n = 7 ∨ n = 8 ∨ n = 9 ∨ n = 10 := by omega
    rcases h with rfl | rfl | rfl | rfl | rfl | rfl | rfl | rfl | rfl | rfl | rfl
    · exact (congrArg (fun g => tcG g (o.val : Int) (s.val : Int)) gen_2_0).trans (tc_2_0 s o)
    · exact (congrArg (fun g => tcG g (o.val : Int) (s.val : Int)) gen_2_1).trans (tc_2_1 s o)
    · exact (congrArg (fun g => tcG g (o.val : Int) (s.val : Int)) gen_2_2).trans (tc_2_2 s o)
    · exact (congrArg (fun g => tcG g (o.val : Int) (s.val : Int)) gen_2_3).trans (tc_2_3 s o)
    · exact (congrArg (fun g => tcG g (o.val : Int) (s.val : Int)) gen_2_4).trans (tc_2_4 s o)
    · exact (congrArg (fun g => tcG g (o.val : Int) (s.val : Int)) gen_2_5).trans (tc_2_5 s o)
    · exact (congrArg (fun g => tcG g (o.val : Int) (s.val : Int)) gen_2_6).trans (tc_2_6 s o)
    · exact (congrArg (fun g => tcG g (o.val : Int) (s.val : Int)) gen_2_7).trans (tc_2_7 s o)
    · exact (congrArg (fun g => tcG g (o.val : Int) (s.val : Int)) gen_2_8).trans (tc_2_8 s o)
    · exact (congrArg (fun g => tcG g (o.val : Int) (s.val : Int)) gen_2_9).trans (tc_2_9 s o)
    · exact (congrArg (fun g => tcG g (o.val : Int) (s.val : Int)) gen_2_10).trans (tc_2_10 s o)
end Go.Proofs.YtjglgcgkmfbdpaaDoor
