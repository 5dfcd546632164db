/- A part of the proof of a statement of this seat: the plain models of the functions. No condition. -/
import Derived.Test.YtefbnamginihkaaEvC
import Derived.Test.YtefbnamginihkaaEv30
set_option linter.unusedVariables false
namespace Go.Ev.M
open Go Go.Ev
def m_script_Key (x0 : Int) : Option ByteArray :=
  let v5 := ([(IntKind.u8.wrap ((97 : Int) + (IntKind.u8.wrap (Int.tdiv x0 (16 : Int))))), (IntKind.u8.wrap ((97 : Int) + (Int.tmod x0 (16 : Int))))] : List Int)
  Option.bind (repS (⟨#[120]⟩ : ByteArray) (IntKind.i64.wrap (Int.tmod x0 (23 : Int)))) fun r8 =>
  if (strOf v5).size + r8.size < 9223372036854775808 then
  some ((strOf v5) ++ r8)
  else none
def m_script_Value (x0 : Int) : Option ByteArray :=
  Option.bind (repS (Utf8.encode (IntKind.i32.wrap (IntKind.u8.wrap ((97 : Int) + (Int.tmod x0 (26 : Int)))))) (IntKind.i64.wrap (Int.tmod x0 (41 : Int)))) fun r7 =>
  some r7
def m_script_Next_l4_b (u4_0 : (List Int)) (u4_1 : Int) (u4_2 : Int) (u4_3 : Int) (u4_4 : Int) (u4_5 : ByteArray) (u4_6 : ByteArray) (u4_7 : ByteArray) (u4_8 : Int) (u4_9 : (List Int)) (u4_10 : Int) (u4_11 : Int) (u4_12 : Int) (u4_13 : Int) (u4_14 : Int) (u4_15 : ByteArray) (u4_16 : ByteArray) (u4_17 : ByteArray) (u4_18 : Int) : Option ((Int × (Int × (Int × (Int × (ByteArray × (ByteArray × (ByteArray × (Int × Unit)))))))) × Int × Int) :=
  some ((u4_11, (u4_12, (u4_13, (u4_14, (u4_15, (u4_16, (u4_17, (u4_18, ())))))))), (mn u4_10 (u4_0.length : Int)), (0 : Int))
def m_script_Next_l4 (N : Nat) (u4_0 : (List Int)) (u4_1 : Int) (u4_2 : Int) (u4_3 : Int) (u4_4 : Int) (u4_5 : ByteArray) (u4_6 : ByteArray) (u4_7 : ByteArray) (u4_8 : Int) (u4_9 : (List Int)) (u4_10 : Int) (u4_11 : Int) (u4_12 : Int) (u4_13 : Int) (u4_14 : Int) (u4_15 : ByteArray) (u4_16 : ByteArray) (u4_17 : ByteArray) (u4_18 : Int) : Option ((Int × (Int × (Int × (Int × (ByteArray × (ByteArray × (ByteArray × (Int × Unit)))))))) × Int × Int) := m_script_Next_l4_b u4_0 u4_1 u4_2 u4_3 u4_4 u4_5 u4_6 u4_7 u4_8 u4_9 u4_10 u4_11 u4_12 u4_13 u4_14 u4_15 u4_16 u4_17 u4_18
def m_script_Next_l5_b (l4 : ((List Int) → Int → Int → Int → Int → ByteArray → ByteArray → ByteArray → Int → (List Int) → Int → Int → Int → Int → Int → ByteArray → ByteArray → ByteArray → Int → Option ((Int × (Int × (Int × (Int × (ByteArray × (ByteArray × (ByteArray × (Int × Unit)))))))) × Int × Int))) (u5_0 : (List Int)) (u5_1 : Int) (u5_2 : Int) (u5_3 : Int) (u5_4 : Int) (u5_5 : ByteArray) (u5_6 : ByteArray) (u5_7 : ByteArray) (u5_8 : Int) (u5_9 : (List Int)) (u5_10 : Int) (u5_11 : Int) (u5_12 : Int) (u5_13 : Int) (u5_14 : Int) (u5_15 : ByteArray) (u5_16 : ByteArray) (u5_17 : ByteArray) (u5_18 : Int) : Option ((Int × (Int × (Int × (Int × (ByteArray × (ByteArray × (ByteArray × (Int × Unit)))))))) × Int × Int) :=
  if (u5_14 == (7 : Int)) = true then
  l4 u5_0 u5_1 u5_2 u5_3 u5_4 u5_5 u5_6 u5_7 u5_8 u5_9 u5_10 u5_11 u5_12 u5_13 u5_14 u5_15 u5_16 u5_17 u5_18
  else
  if (u5_14 == (8 : Int)) = true then
   l4 u5_0 u5_1 u5_2 u5_3 u5_4 u5_5 u5_6 u5_7 u5_8 u5_9 u5_10 u5_11 u5_12 u5_13 u5_14 u5_15 u5_16 u5_17 u5_18
  else
   let v25 := (IntKind.i64.wrap (u5_10 + (1 : Int)))
   if (decide (v25 > (u5_9.length : Int))) = true then
    Option.bind (m_script_Key (0 : Int)) fun r28 =>
    if (u5_14 == (2 : Int)) = true then
     let v30 := (IntKind.i64.wrap (v25 + (1 : Int)))
     if (decide (v30 > (u5_9.length : Int))) = true then
      Option.bind (m_script_Value (0 : Int)) fun r33 =>
      l4 u5_0 u5_1 u5_2 u5_3 u5_4 u5_5 u5_6 u5_7 u5_8 u5_9 v30 u5_11 u5_12 u5_13 u5_14 r28 r33 u5_17 u5_18
     else
      let v34 := (IntKind.i64.wrap (v30 - (1 : Int)))
      if (0 : Int) ≤ v34 then
       if v34 < (u5_9.length : Int) then
        Option.bind (m_script_Value (rd (.int .u8) u5_9 v34)) fun r36 =>
        l4 u5_0 u5_1 u5_2 u5_3 u5_4 u5_5 u5_6 u5_7 u5_8 u5_9 v30 u5_11 u5_12 u5_13 u5_14 r28 r36 u5_17 u5_18
       else none
      else none
    else
     if (u5_14 == (3 : Int)) = true then
      let v38 := (IntKind.i64.wrap (v25 + (1 : Int)))
      if (decide (v38 > (u5_9.length : Int))) = true then
       Option.bind (m_script_Value (0 : Int)) fun r41 =>
       l4 u5_0 u5_1 u5_2 u5_3 u5_4 u5_5 u5_6 u5_7 u5_8 u5_9 v38 u5_11 u5_12 u5_13 u5_14 r28 r41 u5_17 u5_18
      else
       let v42 := (IntKind.i64.wrap (v38 - (1 : Int)))
       if (0 : Int) ≤ v42 then
        if v42 < (u5_9.length : Int) then
         Option.bind (m_script_Value (rd (.int .u8) u5_9 v42)) fun r44 =>
         l4 u5_0 u5_1 u5_2 u5_3 u5_4 u5_5 u5_6 u5_7 u5_8 u5_9 v38 u5_11 u5_12 u5_13 u5_14 r28 r44 u5_17 u5_18
        else none
       else none
     else
      if (u5_14 == (5 : Int)) = true then
       let v46 := (IntKind.i64.wrap (v25 + (1 : Int)))
       if (decide (v46 > (u5_9.length : Int))) = true then
        Option.bind (m_script_Value (0 : Int)) fun r49 =>
        let v50 := (IntKind.i64.wrap (v46 + (1 : Int)))
        if (decide (v50 > (u5_9.length : Int))) = true then
         Option.bind (m_script_Value (0 : Int)) fun r53 =>
         l4 u5_0 u5_1 u5_2 u5_3 u5_4 u5_5 u5_6 u5_7 u5_8 u5_9 v50 u5_11 u5_12 u5_13 u5_14 r28 r53 r49 u5_18
        else
         let v54 := (IntKind.i64.wrap (v50 - (1 : Int)))
         if (0 : Int) ≤ v54 then
          if v54 < (u5_9.length : Int) then
           Option.bind (m_script_Value (rd (.int .u8) u5_9 v54)) fun r56 =>
           l4 u5_0 u5_1 u5_2 u5_3 u5_4 u5_5 u5_6 u5_7 u5_8 u5_9 v50 u5_11 u5_12 u5_13 u5_14 r28 r56 r49 u5_18
          else none
         else none
       else
        let v57 := (IntKind.i64.wrap (v46 - (1 : Int)))
        if (0 : Int) ≤ v57 then
         if v57 < (u5_9.length : Int) then
          Option.bind (m_script_Value (rd (.int .u8) u5_9 v57)) fun r59 =>
          let v60 := (IntKind.i64.wrap (v46 + (1 : Int)))
          if (decide (v60 > (u5_9.length : Int))) = true then
           Option.bind (m_script_Value (0 : Int)) fun r63 =>
           l4 u5_0 u5_1 u5_2 u5_3 u5_4 u5_5 u5_6 u5_7 u5_8 u5_9 v60 u5_11 u5_12 u5_13 u5_14 r28 r63 r59 u5_18
          else
           let v64 := (IntKind.i64.wrap (v60 - (1 : Int)))
           if (0 : Int) ≤ v64 then
            if v64 < (u5_9.length : Int) then
             Option.bind (m_script_Value (rd (.int .u8) u5_9 v64)) fun r66 =>
             l4 u5_0 u5_1 u5_2 u5_3 u5_4 u5_5 u5_6 u5_7 u5_8 u5_9 v60 u5_11 u5_12 u5_13 u5_14 r28 r66 r59 u5_18
            else none
           else none
         else none
        else none
      else
       if (u5_14 == (6 : Int)) = true then
        let v68 := (IntKind.i64.wrap (v25 + (1 : Int)))
        if (decide (v68 > (u5_9.length : Int))) = true then
         l4 u5_0 u5_1 u5_2 u5_3 u5_4 u5_5 u5_6 u5_7 u5_8 u5_9 v68 u5_11 u5_12 (IntKind.i64.wrap ((Int.tmod (0 : Int) (32 : Int)) + (1 : Int))) u5_14 r28 u5_16 u5_17 u5_18
        else
         let v73 := (IntKind.i64.wrap (v68 - (1 : Int)))
         if (0 : Int) ≤ v73 then
          if v73 < (u5_9.length : Int) then
           l4 u5_0 u5_1 u5_2 u5_3 u5_4 u5_5 u5_6 u5_7 u5_8 u5_9 v68 u5_11 u5_12 (IntKind.i64.wrap ((Int.tmod (IntKind.i64.wrap (rd (.int .u8) u5_9 v73)) (32 : Int)) + (1 : Int))) u5_14 r28 u5_16 u5_17 u5_18
          else none
         else none
       else
        l4 u5_0 u5_1 u5_2 u5_3 u5_4 u5_5 u5_6 u5_7 u5_8 u5_9 v25 u5_11 u5_12 u5_13 u5_14 r28 u5_16 u5_17 u5_18
   else
    let v78 := (IntKind.i64.wrap (v25 - (1 : Int)))
    if (0 : Int) ≤ v78 then
     if v78 < (u5_9.length : Int) then
      Option.bind (m_script_Key (rd (.int .u8) u5_9 v78)) fun r80 =>
      if (u5_14 == (2 : Int)) = true then
       let v82 := (IntKind.i64.wrap (v25 + (1 : Int)))
       if (decide (v82 > (u5_9.length : Int))) = true then
        Option.bind (m_script_Value (0 : Int)) fun r85 =>
        l4 u5_0 u5_1 u5_2 u5_3 u5_4 u5_5 u5_6 u5_7 u5_8 u5_9 v82 u5_11 u5_12 u5_13 u5_14 r80 r85 u5_17 u5_18
       else
        let v86 := (IntKind.i64.wrap (v82 - (1 : Int)))
        if (0 : Int) ≤ v86 then
         if v86 < (u5_9.length : Int) then
          Option.bind (m_script_Value (rd (.int .u8) u5_9 v86)) fun r88 =>
          l4 u5_0 u5_1 u5_2 u5_3 u5_4 u5_5 u5_6 u5_7 u5_8 u5_9 v82 u5_11 u5_12 u5_13 u5_14 r80 r88 u5_17 u5_18
         else none
        else none
      else
       if (u5_14 == (3 : Int)) = true then
        let v90 := (IntKind.i64.wrap (v25 + (1 : Int)))
        if (decide (v90 > (u5_9.length : Int))) = true then
         Option.bind (m_script_Value (0 : Int)) fun r93 =>
         l4 u5_0 u5_1 u5_2 u5_3 u5_4 u5_5 u5_6 u5_7 u5_8 u5_9 v90 u5_11 u5_12 u5_13 u5_14 r80 r93 u5_17 u5_18
        else
         let v94 := (IntKind.i64.wrap (v90 - (1 : Int)))
         if (0 : Int) ≤ v94 then
          if v94 < (u5_9.length : Int) then
           Option.bind (m_script_Value (rd (.int .u8) u5_9 v94)) fun r96 =>
           l4 u5_0 u5_1 u5_2 u5_3 u5_4 u5_5 u5_6 u5_7 u5_8 u5_9 v90 u5_11 u5_12 u5_13 u5_14 r80 r96 u5_17 u5_18
          else none
         else none
       else
        if (u5_14 == (5 : Int)) = true then
         let v98 := (IntKind.i64.wrap (v25 + (1 : Int)))
         if (decide (v98 > (u5_9.length : Int))) = true then
          Option.bind (m_script_Value (0 : Int)) fun r101 =>
          let v102 := (IntKind.i64.wrap (v98 + (1 : Int)))
          if (decide (v102 > (u5_9.length : Int))) = true then
           Option.bind (m_script_Value (0 : Int)) fun r105 =>
           l4 u5_0 u5_1 u5_2 u5_3 u5_4 u5_5 u5_6 u5_7 u5_8 u5_9 v102 u5_11 u5_12 u5_13 u5_14 r80 r105 r101 u5_18
          else
           let v106 := (IntKind.i64.wrap (v102 - (1 : Int)))
           if (0 : Int) ≤ v106 then
            if v106 < (u5_9.length : Int) then
             Option.bind (m_script_Value (rd (.int .u8) u5_9 v106)) fun r108 =>
             l4 u5_0 u5_1 u5_2 u5_3 u5_4 u5_5 u5_6 u5_7 u5_8 u5_9 v102 u5_11 u5_12 u5_13 u5_14 r80 r108 r101 u5_18
            else none
           else none
         else
          let v109 := (IntKind.i64.wrap (v98 - (1 : Int)))
          if (0 : Int) ≤ v109 then
           if v109 < (u5_9.length : Int) then
            Option.bind (m_script_Value (rd (.int .u8) u5_9 v109)) fun r111 =>
            let v112 := (IntKind.i64.wrap (v98 + (1 : Int)))
            if (decide (v112 > (u5_9.length : Int))) = true then
             Option.bind (m_script_Value (0 : Int)) fun r115 =>
             l4 u5_0 u5_1 u5_2 u5_3 u5_4 u5_5 u5_6 u5_7 u5_8 u5_9 v112 u5_11 u5_12 u5_13 u5_14 r80 r115 r111 u5_18
            else
             let v116 := (IntKind.i64.wrap (v112 - (1 : Int)))
             if (0 : Int) ≤ v116 then
              if v116 < (u5_9.length : Int) then
               Option.bind (m_script_Value (rd (.int .u8) u5_9 v116)) fun r118 =>
               l4 u5_0 u5_1 u5_2 u5_3 u5_4 u5_5 u5_6 u5_7 u5_8 u5_9 v112 u5_11 u5_12 u5_13 u5_14 r80 r118 r111 u5_18
              else none
             else none
           else none
          else none
        else
         if (u5_14 == (6 : Int)) = true then
          let v120 := (IntKind.i64.wrap (v25 + (1 : Int)))
          if (decide (v120 > (u5_9.length : Int))) = true then
           l4 u5_0 u5_1 u5_2 u5_3 u5_4 u5_5 u5_6 u5_7 u5_8 u5_9 v120 u5_11 u5_12 (IntKind.i64.wrap ((Int.tmod (0 : Int) (32 : Int)) + (1 : Int))) u5_14 r80 u5_16 u5_17 u5_18
          else
           let v125 := (IntKind.i64.wrap (v120 - (1 : Int)))
           if (0 : Int) ≤ v125 then
            if v125 < (u5_9.length : Int) then
             l4 u5_0 u5_1 u5_2 u5_3 u5_4 u5_5 u5_6 u5_7 u5_8 u5_9 v120 u5_11 u5_12 (IntKind.i64.wrap ((Int.tmod (IntKind.i64.wrap (rd (.int .u8) u5_9 v125)) (32 : Int)) + (1 : Int))) u5_14 r80 u5_16 u5_17 u5_18
            else none
           else none
         else
          l4 u5_0 u5_1 u5_2 u5_3 u5_4 u5_5 u5_6 u5_7 u5_8 u5_9 v25 u5_11 u5_12 u5_13 u5_14 r80 u5_16 u5_17 u5_18
     else none
    else none
def m_script_Next_l5 (N : Nat) (u5_0 : (List Int)) (u5_1 : Int) (u5_2 : Int) (u5_3 : Int) (u5_4 : Int) (u5_5 : ByteArray) (u5_6 : ByteArray) (u5_7 : ByteArray) (u5_8 : Int) (u5_9 : (List Int)) (u5_10 : Int) (u5_11 : Int) (u5_12 : Int) (u5_13 : Int) (u5_14 : Int) (u5_15 : ByteArray) (u5_16 : ByteArray) (u5_17 : ByteArray) (u5_18 : Int) : Option ((Int × (Int × (Int × (Int × (ByteArray × (ByteArray × (ByteArray × (Int × Unit)))))))) × Int × Int) := m_script_Next_l5_b (m_script_Next_l4 N) u5_0 u5_1 u5_2 u5_3 u5_4 u5_5 u5_6 u5_7 u5_8 u5_9 u5_10 u5_11 u5_12 u5_13 u5_14 u5_15 u5_16 u5_17 u5_18
def m_script_Next_l3_b (l4 : ((List Int) → Int → Int → Int → Int → ByteArray → ByteArray → ByteArray → Int → (List Int) → Int → Int → Int → Int → Int → ByteArray → ByteArray → ByteArray → Int → Option ((Int × (Int × (Int × (Int × (ByteArray × (ByteArray × (ByteArray × (Int × Unit)))))))) × Int × Int))) (l5 : ((List Int) → Int → Int → Int → Int → ByteArray → ByteArray → ByteArray → Int → (List Int) → Int → Int → Int → Int → Int → ByteArray → ByteArray → ByteArray → Int → Option ((Int × (Int × (Int × (Int × (ByteArray × (ByteArray × (ByteArray × (Int × Unit)))))))) × Int × Int))) (u3_0 : (List Int)) (u3_1 : Int) (u3_2 : Int) (u3_3 : Int) (u3_4 : Int) (u3_5 : Int) (u3_6 : Int) (u3_7 : Int) (u3_8 : ByteArray) (u3_9 : ByteArray) (u3_10 : ByteArray) (u3_11 : Int) (u3_12 : (List Int)) (u3_13 : Int) (u3_14 : Int) (u3_15 : Int) (u3_16 : Int) (u3_17 : Int) (u3_18 : ByteArray) (u3_19 : ByteArray) (u3_20 : ByteArray) (u3_21 : Int) : Option ((Int × (Int × (Int × (Int × (ByteArray × (ByteArray × (ByteArray × (Int × Unit)))))))) × Int × Int) :=
  if (u3_3 == (3 : Int)) = true then
  l4 u3_0 u3_4 u3_5 u3_6 u3_7 u3_8 u3_9 u3_10 u3_11 u3_12 u3_13 (2 : Int) (0 : Int) u3_2 (0 : Int) (⟨#[]⟩ : ByteArray) (⟨#[]⟩ : ByteArray) (⟨#[]⟩ : ByteArray) (0 : Int)
  else
  if (u3_3 == (4 : Int)) = true then
   l4 u3_0 u3_4 u3_5 u3_6 u3_7 u3_8 u3_9 u3_10 u3_11 u3_12 u3_13 (4 : Int) (0 : Int) (IntKind.i64.wrap ((Int.tmod u3_2 (8 : Int)) + (1 : Int))) (0 : Int) (⟨#[]⟩ : ByteArray) (⟨#[]⟩ : ByteArray) (⟨#[]⟩ : ByteArray) (0 : Int)
  else
   if (u3_3 == (5 : Int)) = true then
    l5 u3_0 u3_4 u3_5 u3_6 u3_7 u3_8 u3_9 u3_10 u3_11 u3_12 u3_13 (3 : Int) u3_1 (0 : Int) (IntKind.i64.wrap ((Int.tmod u3_2 (8 : Int)) + (1 : Int))) (⟨#[]⟩ : ByteArray) (⟨#[]⟩ : ByteArray) (⟨#[]⟩ : ByteArray) (IntKind.i64.wrap (Int.tdiv u3_2 (8 : Int)))
   else
    if (u3_3 == (6 : Int)) = true then
     l5 u3_0 u3_4 u3_5 u3_6 u3_7 u3_8 u3_9 u3_10 u3_11 u3_12 u3_13 (3 : Int) u3_1 (0 : Int) (IntKind.i64.wrap ((Int.tmod u3_2 (8 : Int)) + (1 : Int))) (⟨#[]⟩ : ByteArray) (⟨#[]⟩ : ByteArray) (⟨#[]⟩ : ByteArray) (IntKind.i64.wrap (Int.tdiv u3_2 (8 : Int)))
    else
     if (u3_3 == (7 : Int)) = true then
      l5 u3_0 u3_4 u3_5 u3_6 u3_7 u3_8 u3_9 u3_10 u3_11 u3_12 u3_13 (3 : Int) u3_1 (0 : Int) (IntKind.i64.wrap ((Int.tmod u3_2 (8 : Int)) + (1 : Int))) (⟨#[]⟩ : ByteArray) (⟨#[]⟩ : ByteArray) (⟨#[]⟩ : ByteArray) (IntKind.i64.wrap (Int.tdiv u3_2 (8 : Int)))
     else
      l4 u3_0 u3_4 u3_5 u3_6 u3_7 u3_8 u3_9 u3_10 u3_11 u3_12 u3_13 (1 : Int) u3_1 (IntKind.i64.wrap ((Int.tmod u3_2 (16 : Int)) + (1 : Int))) (0 : Int) (⟨#[]⟩ : ByteArray) (⟨#[]⟩ : ByteArray) (⟨#[]⟩ : ByteArray) (0 : Int)
def m_script_Next_l3 (N : Nat) (u3_0 : (List Int)) (u3_1 : Int) (u3_2 : Int) (u3_3 : Int) (u3_4 : Int) (u3_5 : Int) (u3_6 : Int) (u3_7 : Int) (u3_8 : ByteArray) (u3_9 : ByteArray) (u3_10 : ByteArray) (u3_11 : Int) (u3_12 : (List Int)) (u3_13 : Int) (u3_14 : Int) (u3_15 : Int) (u3_16 : Int) (u3_17 : Int) (u3_18 : ByteArray) (u3_19 : ByteArray) (u3_20 : ByteArray) (u3_21 : Int) : Option ((Int × (Int × (Int × (Int × (ByteArray × (ByteArray × (ByteArray × (Int × Unit)))))))) × Int × Int) := m_script_Next_l3_b (m_script_Next_l4 N) (m_script_Next_l5 N) u3_0 u3_1 u3_2 u3_3 u3_4 u3_5 u3_6 u3_7 u3_8 u3_9 u3_10 u3_11 u3_12 u3_13 u3_14 u3_15 u3_16 u3_17 u3_18 u3_19 u3_20 u3_21
def m_script_Next_l2_b (l3 : ((List Int) → Int → Int → Int → Int → Int → Int → Int → ByteArray → ByteArray → ByteArray → Int → (List Int) → Int → Int → Int → Int → Int → ByteArray → ByteArray → ByteArray → Int → Option ((Int × (Int × (Int × (Int × (ByteArray × (ByteArray × (ByteArray × (Int × Unit)))))))) × Int × Int))) (u2_0 : (List Int)) (u2_1 : Int) (u2_2 : Int) (u2_3 : Int) (u2_4 : Int) (u2_5 : Int) (u2_6 : Int) (u2_7 : Int) (u2_8 : ByteArray) (u2_9 : ByteArray) (u2_10 : ByteArray) (u2_11 : Int) (u2_12 : (List Int)) (u2_13 : Int) (u2_14 : Int) (u2_15 : Int) (u2_16 : Int) (u2_17 : Int) (u2_18 : ByteArray) (u2_19 : ByteArray) (u2_20 : ByteArray) (u2_21 : Int) : Option ((Int × (Int × (Int × (Int × (ByteArray × (ByteArray × (ByteArray × (Int × Unit)))))))) × Int × Int) :=
  l3 u2_0 u2_2 u2_3 (Int.tmod u2_1 (8 : Int)) u2_4 u2_5 u2_6 u2_7 u2_8 u2_9 u2_10 u2_11 u2_12 u2_13 u2_14 u2_15 u2_16 u2_17 u2_18 u2_19 u2_20 u2_21
def m_script_Next_l2 (N : Nat) (u2_0 : (List Int)) (u2_1 : Int) (u2_2 : Int) (u2_3 : Int) (u2_4 : Int) (u2_5 : Int) (u2_6 : Int) (u2_7 : Int) (u2_8 : ByteArray) (u2_9 : ByteArray) (u2_10 : ByteArray) (u2_11 : Int) (u2_12 : (List Int)) (u2_13 : Int) (u2_14 : Int) (u2_15 : Int) (u2_16 : Int) (u2_17 : Int) (u2_18 : ByteArray) (u2_19 : ByteArray) (u2_20 : ByteArray) (u2_21 : Int) : Option ((Int × (Int × (Int × (Int × (ByteArray × (ByteArray × (ByteArray × (Int × Unit)))))))) × Int × Int) := m_script_Next_l2_b (m_script_Next_l3 N) u2_0 u2_1 u2_2 u2_3 u2_4 u2_5 u2_6 u2_7 u2_8 u2_9 u2_10 u2_11 u2_12 u2_13 u2_14 u2_15 u2_16 u2_17 u2_18 u2_19 u2_20 u2_21
def m_script_Next_l1_b (l2 : ((List Int) → Int → Int → Int → Int → Int → Int → Int → ByteArray → ByteArray → ByteArray → Int → (List Int) → Int → Int → Int → Int → Int → ByteArray → ByteArray → ByteArray → Int → Option ((Int × (Int × (Int × (Int × (ByteArray × (ByteArray × (ByteArray × (Int × Unit)))))))) × Int × Int))) (u1_0 : (List Int)) (u1_1 : Int) (u1_2 : Int) (u1_3 : Int) (u1_4 : Int) (u1_5 : Int) (u1_6 : Int) (u1_7 : Int) (u1_8 : ByteArray) (u1_9 : ByteArray) (u1_10 : ByteArray) (u1_11 : Int) (u1_12 : (List Int)) (u1_13 : Int) : Option ((Int × (Int × (Int × (Int × (ByteArray × (ByteArray × (ByteArray × (Int × Unit)))))))) × Int × Int) :=
  l2 u1_0 u1_1 u1_2 u1_3 u1_4 u1_5 u1_6 u1_7 u1_8 u1_9 u1_10 u1_11 u1_12 u1_13 (0 : Int) (0 : Int) (0 : Int) (0 : Int) (⟨#[]⟩ : ByteArray) (⟨#[]⟩ : ByteArray) (⟨#[]⟩ : ByteArray) (0 : Int)
def m_script_Next_l1 (N : Nat) (u1_0 : (List Int)) (u1_1 : Int) (u1_2 : Int) (u1_3 : Int) (u1_4 : Int) (u1_5 : Int) (u1_6 : Int) (u1_7 : Int) (u1_8 : ByteArray) (u1_9 : ByteArray) (u1_10 : ByteArray) (u1_11 : Int) (u1_12 : (List Int)) (u1_13 : Int) : Option ((Int × (Int × (Int × (Int × (ByteArray × (ByteArray × (ByteArray × (Int × Unit)))))))) × Int × Int) := m_script_Next_l1_b (m_script_Next_l2 N) u1_0 u1_1 u1_2 u1_3 u1_4 u1_5 u1_6 u1_7 u1_8 u1_9 u1_10 u1_11 u1_12 u1_13
def m_script_Next_l0_b (l1 : ((List Int) → Int → Int → Int → Int → Int → Int → Int → ByteArray → ByteArray → ByteArray → Int → (List Int) → Int → Option ((Int × (Int × (Int × (Int × (ByteArray × (ByteArray × (ByteArray × (Int × Unit)))))))) × Int × Int))) (u0_0 : (List Int)) (u0_1 : Int) (u0_2 : Int) (u0_3 : Int) (u0_4 : Int) (u0_5 : Int) (u0_6 : Int) (u0_7 : ByteArray) (u0_8 : ByteArray) (u0_9 : ByteArray) (u0_10 : Int) (u0_11 : (List Int)) (u0_12 : Int) : Option ((Int × (Int × (Int × (Int × (ByteArray × (ByteArray × (ByteArray × (Int × Unit)))))))) × Int × Int) :=
  if u0_1 ≠ 0 then
  let v9 := (Int.tmod (IntKind.i64.wrap (IntKind.u8.wrap (Int.tdiv u0_2 (8 : Int)))) u0_1)
  let v10 := (IntKind.i64.wrap (u0_12 + (1 : Int)))
  if (decide (v10 > (u0_11.length : Int))) = true then
   l1 u0_0 u0_2 v9 (0 : Int) u0_3 u0_4 u0_5 u0_6 u0_7 u0_8 u0_9 u0_10 u0_11 v10
  else
   let v140 := (IntKind.i64.wrap (v10 - (1 : Int)))
   if (0 : Int) ≤ v140 then
    if v140 < (u0_11.length : Int) then
     l1 u0_0 u0_2 v9 (IntKind.i64.wrap (rd (.int .u8) u0_11 v140)) u0_3 u0_4 u0_5 u0_6 u0_7 u0_8 u0_9 u0_10 u0_11 v10
    else none
   else none
  else none
def m_script_Next_l0 (N : Nat) (u0_0 : (List Int)) (u0_1 : Int) (u0_2 : Int) (u0_3 : Int) (u0_4 : Int) (u0_5 : Int) (u0_6 : Int) (u0_7 : ByteArray) (u0_8 : ByteArray) (u0_9 : ByteArray) (u0_10 : Int) (u0_11 : (List Int)) (u0_12 : Int) : Option ((Int × (Int × (Int × (Int × (ByteArray × (ByteArray × (ByteArray × (Int × Unit)))))))) × Int × Int) := m_script_Next_l0_b (m_script_Next_l1 N) u0_0 u0_1 u0_2 u0_3 u0_4 u0_5 u0_6 u0_7 u0_8 u0_9 u0_10 u0_11 u0_12
def m_script_Next_a (l0 : ((List Int) → Int → Int → Int → Int → Int → Int → ByteArray → ByteArray → ByteArray → Int → (List Int) → Int → Option ((Int × (Int × (Int × (Int × (ByteArray × (ByteArray × (ByteArray × (Int × Unit)))))))) × Int × Int))) (x0 : (List Int)) (x1 : Int) : Option ((Int × (Int × (Int × (Int × (ByteArray × (ByteArray × (ByteArray × (Int × Unit)))))))) × Int × Int) :=
  if (decide (x1 < (1 : Int))) = true then
  some (((0 : Int), ((0 : Int), ((0 : Int), ((0 : Int), ((⟨#[]⟩ : ByteArray), ((⟨#[]⟩ : ByteArray), ((⟨#[]⟩ : ByteArray), ((0 : Int), ())))))))), (0 : Int), (2 : Int))
  else
  if (decide (x1 > (64 : Int))) = true then
   some (((0 : Int), ((0 : Int), ((0 : Int), ((0 : Int), ((⟨#[]⟩ : ByteArray), ((⟨#[]⟩ : ByteArray), ((⟨#[]⟩ : ByteArray), ((0 : Int), ())))))))), (0 : Int), (2 : Int))
  else
   if ((x0.length : Int) == (0 : Int)) = true then
    some (((0 : Int), ((0 : Int), ((0 : Int), ((0 : Int), ((⟨#[]⟩ : ByteArray), ((⟨#[]⟩ : ByteArray), ((⟨#[]⟩ : ByteArray), ((0 : Int), ())))))))), (0 : Int), (4 : Int))
   else
    if (decide ((1 : Int) > (x0.length : Int))) = true then
     l0 x0 x1 (0 : Int) (0 : Int) (0 : Int) (0 : Int) (0 : Int) (⟨#[]⟩ : ByteArray) (⟨#[]⟩ : ByteArray) (⟨#[]⟩ : ByteArray) (0 : Int) x0 (1 : Int)
    else
     if (0 : Int) < (x0.length : Int) then
      l0 x0 x1 (rd (.int .u8) x0 (0 : Int)) (0 : Int) (0 : Int) (0 : Int) (0 : Int) (⟨#[]⟩ : ByteArray) (⟨#[]⟩ : ByteArray) (⟨#[]⟩ : ByteArray) (0 : Int) x0 (1 : Int)
     else none
def m_script_Next (x0 : (List Int)) (x1 : Int) : Option ((Int × (Int × (Int × (Int × (ByteArray × (ByteArray × (ByteArray × (Int × Unit)))))))) × Int × Int) := m_script_Next_a (m_script_Next_l0 FUEL) x0 x1
def m_script_Parse_l0_b (s0 : ((List Int) → Int → (List (Int × (Int × (Int × (Int × (ByteArray × (ByteArray × (ByteArray × (Int × Unit))))))))) → Option ((List (Int × (Int × (Int × (Int × (ByteArray × (ByteArray × (ByteArray × (Int × Unit))))))))) × Int))) (u0_0 : (List Int)) (u0_1 : Int) (u0_2 : (List (Int × (Int × (Int × (Int × (ByteArray × (ByteArray × (ByteArray × (Int × Unit)))))))))) : Option ((List (Int × (Int × (Int × (Int × (ByteArray × (ByteArray × (ByteArray × (Int × Unit))))))))) × Int) :=
  if (decide ((u0_0.length : Int) > (0 : Int))) = true then
  Option.bind (m_script_Next u0_0 u0_1) fun r7 =>
  if (r7.2.2 != (0 : Int)) = true then
   some (([] : List (Int × (Int × (Int × (Int × (ByteArray × (ByteArray × (ByteArray × (Int × Unit))))))))), r7.2.2)
  else
   let v9 := ([r7.1] : List (Int × (Int × (Int × (Int × (ByteArray × (ByteArray × (ByteArray × (Int × Unit)))))))))
   if fits (List.length u0_2 + List.length v9) 88 then
    if (0 : Int) ≤ (u0_0.length : Int) then
     if (u0_0.length : Int) ≤ (u0_0.length : Int) then
      if (0 : Int) ≤ r7.2.1 then
       if r7.2.1 ≤ (u0_0.length : Int) then
        s0 (win u0_0 r7.2.1 ((u0_0.length : Int) - r7.2.1)) u0_1 (u0_2 ++ v9)
       else none
      else none
     else none
    else none
   else none
  else
  some (u0_2, (0 : Int))
def m_script_Parse_l0 (N : Nat) : Nat → (List Int) → Int → (List (Int × (Int × (Int × (Int × (ByteArray × (ByteArray × (ByteArray × (Int × Unit))))))))) → Option ((List (Int × (Int × (Int × (Int × (ByteArray × (ByteArray × (ByteArray × (Int × Unit))))))))) × Int)
  | 0, _, _, _ => none
  | n + 1, u0_0, u0_1, u0_2 => m_script_Parse_l0_b (m_script_Parse_l0 N n) u0_0 u0_1 u0_2
def m_script_Parse_a (l0 : ((List Int) → Int → (List (Int × (Int × (Int × (Int × (ByteArray × (ByteArray × (ByteArray × (Int × Unit))))))))) → Option ((List (Int × (Int × (Int × (Int × (ByteArray × (ByteArray × (ByteArray × (Int × Unit))))))))) × Int))) (x0 : (List Int)) (x1 : Int) : Option ((List (Int × (Int × (Int × (Int × (ByteArray × (ByteArray × (ByteArray × (Int × Unit))))))))) × Int) :=
  if (decide (x1 < (1 : Int))) = true then
  some (([] : List (Int × (Int × (Int × (Int × (ByteArray × (ByteArray × (ByteArray × (Int × Unit))))))))), (2 : Int))
  else
  if (decide (x1 > (64 : Int))) = true then
   some (([] : List (Int × (Int × (Int × (Int × (ByteArray × (ByteArray × (ByteArray × (Int × Unit))))))))), (2 : Int))
  else
   if (decide ((x0.length : Int) > (4096 : Int))) = true then
    some (([] : List (Int × (Int × (Int × (Int × (ByteArray × (ByteArray × (ByteArray × (Int × Unit))))))))), (5 : Int))
   else
    l0 x0 x1 ([] : List (Int × (Int × (Int × (Int × (ByteArray × (ByteArray × (ByteArray × (Int × Unit)))))))))
def m_script_Parse (x0 : (List Int)) (x1 : Int) : Option ((List (Int × (Int × (Int × (Int × (ByteArray × (ByteArray × (ByteArray × (Int × Unit))))))))) × Int) := m_script_Parse_a (m_script_Parse_l0 FUEL FUEL) x0 x1
def m_ticketlineref04_Same_l0_b (s0 : ((List (Int × (Int × (Int × (Int × (ByteArray × (ByteArray × (ByteArray × (Int × Unit))))))))) → (List (Int × (Int × (Int × (Int × (ByteArray × (ByteArray × (ByteArray × (Int × Unit))))))))) → Int → Option Bool)) (u0_0 : (List (Int × (Int × (Int × (Int × (ByteArray × (ByteArray × (ByteArray × (Int × Unit)))))))))) (u0_1 : (List (Int × (Int × (Int × (Int × (ByteArray × (ByteArray × (ByteArray × (Int × Unit)))))))))) (u0_2 : Int) : Option Bool :=
  if (decide (u0_2 < (u0_0.length : Int))) = true then
  if (0 : Int) ≤ u0_2 then
   if u0_2 < (u0_0.length : Int) then
    if (0 : Int) ≤ u0_2 then
     if u0_2 < (u0_1.length : Int) then
      if (!(Ty.beq (.pair (.int .i64) (.pair (.int .i64) (.pair (.int .i64) (.pair (.int .i64) (.pair .str (.pair .str (.pair .str (.pair (.int .i64) .nl)))))))) (rd (.pair (.int .i64) (.pair (.int .i64) (.pair (.int .i64) (.pair (.int .i64) (.pair .str (.pair .str (.pair .str (.pair (.int .i64) .nl)))))))) u0_0 u0_2) (rd (.pair (.int .i64) (.pair (.int .i64) (.pair (.int .i64) (.pair (.int .i64) (.pair .str (.pair .str (.pair .str (.pair (.int .i64) .nl)))))))) u0_1 u0_2))) = true then
       some false
      else
       s0 u0_0 u0_1 (IntKind.i64.wrap (u0_2 + (1 : Int)))
     else none
    else none
   else none
  else none
  else
  some true
def m_ticketlineref04_Same_l0 (N : Nat) : Nat → (List (Int × (Int × (Int × (Int × (ByteArray × (ByteArray × (ByteArray × (Int × Unit))))))))) → (List (Int × (Int × (Int × (Int × (ByteArray × (ByteArray × (ByteArray × (Int × Unit))))))))) → Int → Option Bool
  | 0, _, _, _ => none
  | n + 1, u0_0, u0_1, u0_2 => m_ticketlineref04_Same_l0_b (m_ticketlineref04_Same_l0 N n) u0_0 u0_1 u0_2
def m_ticketlineref04_Same_a (l0 : ((List (Int × (Int × (Int × (Int × (ByteArray × (ByteArray × (ByteArray × (Int × Unit))))))))) → (List (Int × (Int × (Int × (Int × (ByteArray × (ByteArray × (ByteArray × (Int × Unit))))))))) → Int → Option Bool)) (x0 : (List (Int × (Int × (Int × (Int × (ByteArray × (ByteArray × (ByteArray × (Int × Unit)))))))))) (x1 : (List (Int × (Int × (Int × (Int × (ByteArray × (ByteArray × (ByteArray × (Int × Unit)))))))))) : Option Bool :=
  if ((x0.length : Int) != (x1.length : Int)) = true then
  some false
  else
  l0 x0 x1 (0 : Int)
def m_ticketlineref04_Same (x0 : (List (Int × (Int × (Int × (Int × (ByteArray × (ByteArray × (ByteArray × (Int × Unit)))))))))) (x1 : (List (Int × (Int × (Int × (Int × (ByteArray × (ByteArray × (ByteArray × (Int × Unit)))))))))) : Option Bool := m_ticketlineref04_Same_a (m_ticketlineref04_Same_l0 FUEL FUEL) x0 x1
def m_ticketlinelaw04_parses (x0 : (List Int)) (x1 : Int) (x2 : Int) (x3 : (List (Int × (Int × (Int × (Int × (ByteArray × (ByteArray × (ByteArray × (Int × Unit)))))))))) : Option Bool :=
  Option.bind (m_script_Parse x0 x1) fun r1 =>
  Option.bind (m_ticketlineref04_Same r1.1 x3) fun r2 =>
  if r2 = true then
  some (r1.2 == x2)
  else
  some false
def m_ticketlinelaw04_next (x0 : (List Int)) (x1 : Int) (x2 : (Int × (Int × (Int × (Int × (ByteArray × (ByteArray × (ByteArray × (Int × Unit))))))))) (x3 : Int) (x4 : Int) : Option Bool :=
  Option.bind (m_script_Next x0 x1) fun r1 =>
  if (Ty.beq (.pair (.int .i64) (.pair (.int .i64) (.pair (.int .i64) (.pair (.int .i64) (.pair .str (.pair .str (.pair .str (.pair (.int .i64) .nl)))))))) r1.1 x2) = true then
  if (r1.2.1 == x3) = true then
   some (r1.2.2 == x4)
  else
   some false
  else
  some false
def m_script_plain (x0 : (Int × (Int × (Int × (Int × (ByteArray × (ByteArray × (ByteArray × (Int × Unit))))))))) : Option (Int × (Int × (Int × (Int × (ByteArray × (ByteArray × (ByteArray × (Int × Unit)))))))) :=
  if (x0.1 == (1 : Int)) = true then
  if (x0.1 != (3 : Int)) = true then
   some (x0.1, (x0.2.1, (x0.2.2.1, ((0 : Int), ((⟨#[]⟩ : ByteArray), ((⟨#[]⟩ : ByteArray), ((⟨#[]⟩ : ByteArray), ((0 : Int), ()))))))))
  else
   if (x0.2.2.2.1 == (7 : Int)) = true then
    some (x0.1, (x0.2.1, ((0 : Int), (x0.2.2.2.1, ((⟨#[]⟩ : ByteArray), ((⟨#[]⟩ : ByteArray), ((⟨#[]⟩ : ByteArray), x0.2.2.2.2.2.2.2)))))))
   else
    if (x0.2.2.2.1 == (8 : Int)) = true then
     some (x0.1, (x0.2.1, ((0 : Int), (x0.2.2.2.1, ((⟨#[]⟩ : ByteArray), ((⟨#[]⟩ : ByteArray), ((⟨#[]⟩ : ByteArray), x0.2.2.2.2.2.2.2)))))))
    else
     if (x0.2.2.2.1 == (6 : Int)) = true then
      some (x0.1, (x0.2.1, (x0.2.2.1, (x0.2.2.2.1, (x0.2.2.2.2.1, ((⟨#[]⟩ : ByteArray), ((⟨#[]⟩ : ByteArray), x0.2.2.2.2.2.2.2)))))))
     else
      if (x0.2.2.2.1 == (5 : Int)) = true then
       some (x0.1, (x0.2.1, ((0 : Int), x0.2.2.2)))
      else
       if (x0.2.2.2.1 == (2 : Int)) = true then
        some (x0.1, (x0.2.1, ((0 : Int), (x0.2.2.2.1, (x0.2.2.2.2.1, (x0.2.2.2.2.2.1, ((⟨#[]⟩ : ByteArray), x0.2.2.2.2.2.2.2)))))))
       else
        if (x0.2.2.2.1 == (3 : Int)) = true then
         some (x0.1, (x0.2.1, ((0 : Int), (x0.2.2.2.1, (x0.2.2.2.2.1, (x0.2.2.2.2.2.1, ((⟨#[]⟩ : ByteArray), x0.2.2.2.2.2.2.2)))))))
        else
         some (x0.1, (x0.2.1, ((0 : Int), (x0.2.2.2.1, (x0.2.2.2.2.1, ((⟨#[]⟩ : ByteArray), ((⟨#[]⟩ : ByteArray), x0.2.2.2.2.2.2.2)))))))
  else
  if (x0.1 != (3 : Int)) = true then
   some (x0.1, ((0 : Int), (x0.2.2.1, ((0 : Int), ((⟨#[]⟩ : ByteArray), ((⟨#[]⟩ : ByteArray), ((⟨#[]⟩ : ByteArray), ((0 : Int), ()))))))))
  else
   if (x0.2.2.2.1 == (7 : Int)) = true then
    some (x0.1, (x0.2.1, ((0 : Int), (x0.2.2.2.1, ((⟨#[]⟩ : ByteArray), ((⟨#[]⟩ : ByteArray), ((⟨#[]⟩ : ByteArray), x0.2.2.2.2.2.2.2)))))))
   else
    if (x0.2.2.2.1 == (8 : Int)) = true then
     some (x0.1, (x0.2.1, ((0 : Int), (x0.2.2.2.1, ((⟨#[]⟩ : ByteArray), ((⟨#[]⟩ : ByteArray), ((⟨#[]⟩ : ByteArray), x0.2.2.2.2.2.2.2)))))))
    else
     if (x0.2.2.2.1 == (6 : Int)) = true then
      some (x0.1, (x0.2.1, (x0.2.2.1, (x0.2.2.2.1, (x0.2.2.2.2.1, ((⟨#[]⟩ : ByteArray), ((⟨#[]⟩ : ByteArray), x0.2.2.2.2.2.2.2)))))))
     else
      if (x0.2.2.2.1 == (5 : Int)) = true then
       some (x0.1, (x0.2.1, ((0 : Int), x0.2.2.2)))
      else
       if (x0.2.2.2.1 == (2 : Int)) = true then
        some (x0.1, (x0.2.1, ((0 : Int), (x0.2.2.2.1, (x0.2.2.2.2.1, (x0.2.2.2.2.2.1, ((⟨#[]⟩ : ByteArray), x0.2.2.2.2.2.2.2)))))))
       else
        if (x0.2.2.2.1 == (3 : Int)) = true then
         some (x0.1, (x0.2.1, ((0 : Int), (x0.2.2.2.1, (x0.2.2.2.2.1, (x0.2.2.2.2.2.1, ((⟨#[]⟩ : ByteArray), x0.2.2.2.2.2.2.2)))))))
        else
         some (x0.1, (x0.2.1, ((0 : Int), (x0.2.2.2.1, (x0.2.2.2.2.1, ((⟨#[]⟩ : ByteArray), ((⟨#[]⟩ : ByteArray), x0.2.2.2.2.2.2.2)))))))
def m_script_within (x0 : Int) (x1 : Int) (x2 : Int) : Option Bool :=
  if (decide (x0 ≥ x1)) = true then
  some (decide (x0 < (IntKind.i64.wrap (x1 + x2))))
  else
  some false
def m_script_keyed (x0 : ByteArray) : Option (Int × Bool) :=
  if (decide ((x0.size : Int) < (2 : Int))) = true then
  some ((0 : Int), false)
  else
  if (decide ((x0.size : Int) > (24 : Int))) = true then
   some ((0 : Int), false)
  else
   if (0 : Int) < (x0.size : Int) then
    if (1 : Int) < (x0.size : Int) then
     let v8 := (IntKind.u8.wrap ((IntKind.u8.wrap ((IntKind.u8.wrap ((IntKind.u8.wrap ((bt x0 (0 : Int)) - (97 : Int))) * (16 : Int))) + (bt x0 (1 : Int)))) - (97 : Int)))
     Option.bind (m_script_Key v8) fun r9 =>
     some (v8, (strEq r9 x0))
    else none
   else none
def m_script_valued_l0_b (s0 : (ByteArray → Int → Option (Int × Bool))) (u0_0 : ByteArray) (u0_1 : Int) : Option (Int × Bool) :=
  if (decide (u0_1 < (256 : Int))) = true then
  Option.bind (m_script_Value (IntKind.u8.wrap u0_1)) fun r3 =>
  if (strEq r3 u0_0) = true then
   some ((IntKind.u8.wrap u0_1), true)
  else
   s0 u0_0 (IntKind.i64.wrap (u0_1 + (1 : Int)))
  else
  some ((0 : Int), false)
def m_script_valued_l0 (N : Nat) : Nat → ByteArray → Int → Option (Int × Bool)
  | 0, _, _ => none
  | n + 1, u0_0, u0_1 => m_script_valued_l0_b (m_script_valued_l0 N n) u0_0 u0_1
def m_script_valued_a (l0 : (ByteArray → Int → Option (Int × Bool))) (x0 : ByteArray) : Option (Int × Bool) :=
  l0 x0 (0 : Int)
def m_script_valued (x0 : ByteArray) : Option (Int × Bool) := m_script_valued_a (m_script_valued_l0 FUEL FUEL) x0
def m_script_bytes (x0 : (Int × (Int × (Int × (Int × (ByteArray × (ByteArray × (ByteArray × (Int × Unit))))))))) : Option ((List Int) × Bool) :=
  Option.bind (m_script_plain x0) fun r1 =>
  if (!(Ty.beq (.pair (.int .i64) (.pair (.int .i64) (.pair (.int .i64) (.pair (.int .i64) (.pair .str (.pair .str (.pair .str (.pair (.int .i64) .nl)))))))) x0 r1)) = true then
  some (([] : List Int), false)
  else
  Option.bind (m_script_within x0.2.1 (0 : Int) (32 : Int)) fun r3 =>
  if (!r3) = true then
   some (([] : List Int), false)
  else
   let v5 := (IntKind.u8.wrap (IntKind.i64.wrap (x0.2.1 * (8 : Int))))
   if (x0.1 == (1 : Int)) = true then
    Option.bind (m_script_within x0.2.2.1 (1 : Int) (16 : Int)) fun r10 =>
    some (([v5, (IntKind.u8.wrap (IntKind.i64.wrap (x0.2.2.1 - (1 : Int))))] : List Int), r10)
   else
    if (x0.1 == (2 : Int)) = true then
     Option.bind (m_script_within x0.2.2.1 (0 : Int) (256 : Int)) fun r14 =>
     some (([(3 : Int), (IntKind.u8.wrap x0.2.2.1)] : List Int), r14)
    else
     if (x0.1 == (4 : Int)) = true then
      Option.bind (m_script_within x0.2.2.1 (1 : Int) (8 : Int)) fun r19 =>
      some (([(4 : Int), (IntKind.u8.wrap (IntKind.i64.wrap (x0.2.2.1 - (1 : Int))))] : List Int), r19)
     else
      if (x0.1 == (3 : Int)) = true then
       Option.bind (m_script_within x0.2.2.2.1 (1 : Int) (8 : Int)) fun r21 =>
       if r21 = true then
        Option.bind (m_script_within x0.2.2.2.2.2.2.2.1 (0 : Int) (32 : Int)) fun r22 =>
        if r22 = true then
         let v28 := ([(IntKind.u8.wrap (v5 + (5 : Int))), (IntKind.u8.wrap (IntKind.i64.wrap ((IntKind.i64.wrap (x0.2.2.2.1 - (1 : Int))) + (IntKind.i64.wrap (x0.2.2.2.2.2.2.2.1 * (8 : Int))))))] : List Int)
         if (x0.2.2.2.1 == (7 : Int)) = true then
          some (v28, true)
         else
          if (x0.2.2.2.1 == (8 : Int)) = true then
           some (v28, true)
          else
           Option.bind (m_script_keyed x0.2.2.2.2.1) fun r31 =>
           Option.bind (m_script_valued x0.2.2.2.2.2.2.1) fun r32 =>
           Option.bind (m_script_valued x0.2.2.2.2.2.1) fun r33 =>
           let v34 := ([r31.1] : List Int)
           if fits (List.length v28 + List.length v34) 1 then
            if (x0.2.2.2.1 == (2 : Int)) = true then
             let v36 := ([r33.1] : List Int)
             if fits (List.length (v28 ++ v34) + List.length v36) 1 then
              let v37 := ((v28 ++ v34) ++ v36)
              if r31.2 = true then
               if r32.2 = true then
                some (v37, r33.2)
               else
                some (v37, false)
              else
               some (v37, false)
             else none
            else
             if (x0.2.2.2.1 == (3 : Int)) = true then
              let v39 := ([r33.1] : List Int)
              if fits (List.length (v28 ++ v34) + List.length v39) 1 then
               let v40 := ((v28 ++ v34) ++ v39)
               if r31.2 = true then
                if r32.2 = true then
                 some (v40, r33.2)
                else
                 some (v40, false)
               else
                some (v40, false)
              else none
             else
              if (x0.2.2.2.1 == (5 : Int)) = true then
               let v42 := ([r32.1, r33.1] : List Int)
               if fits (List.length (v28 ++ v34) + List.length v42) 1 then
                let v43 := ((v28 ++ v34) ++ v42)
                if r31.2 = true then
                 if r32.2 = true then
                  some (v43, r33.2)
                 else
                  some (v43, false)
                else
                 some (v43, false)
               else none
              else
               if (x0.2.2.2.1 == (6 : Int)) = true then
                let v47 := ([(IntKind.u8.wrap (IntKind.i64.wrap (x0.2.2.1 - (1 : Int))))] : List Int)
                if fits (List.length (v28 ++ v34) + List.length v47) 1 then
                 let v48 := ((v28 ++ v34) ++ v47)
                 Option.bind (m_script_within x0.2.2.1 (1 : Int) (32 : Int)) fun r49 =>
                 if r31.2 = true then
                  if r32.2 = true then
                   some (v48, r49)
                  else
                   some (v48, false)
                 else
                  some (v48, false)
                else none
               else
                if r31.2 = true then
                 if r32.2 = true then
                  some ((v28 ++ v34), r33.2)
                 else
                  some ((v28 ++ v34), false)
                else
                 some ((v28 ++ v34), false)
           else none
        else
         some (([] : List Int), false)
       else
        some (([] : List Int), false)
      else
       some (([] : List Int), false)
def m_script_Valid (x0 : (Int × (Int × (Int × (Int × (ByteArray × (ByteArray × (ByteArray × (Int × Unit))))))))) : Option Bool :=
  Option.bind (m_script_bytes x0) fun r1 =>
  some r1.2
def m_script_Write_l0_b (s0 : ((List (Int × (Int × (Int × (Int × (ByteArray × (ByteArray × (ByteArray × (Int × Unit))))))))) → Int → Int → (List Int) → Option ((List Int) × Int))) (u0_0 : (List (Int × (Int × (Int × (Int × (ByteArray × (ByteArray × (ByteArray × (Int × Unit)))))))))) (u0_1 : Int) (u0_2 : Int) (u0_3 : (List Int)) : Option ((List Int) × Int) :=
  if (decide (u0_2 < u0_1)) = true then
  if (0 : Int) ≤ u0_2 then
   if u0_2 < (u0_0.length : Int) then
    Option.bind (m_script_bytes (rd (.pair (.int .i64) (.pair (.int .i64) (.pair (.int .i64) (.pair (.int .i64) (.pair .str (.pair .str (.pair .str (.pair (.int .i64) .nl)))))))) u0_0 u0_2)) fun r4 =>
    if (!r4.2) = true then
     some (([] : List Int), (2 : Int))
    else
     if fits (List.length u0_3 + List.length r4.1) 1 then
      s0 u0_0 u0_1 (IntKind.i64.wrap (u0_2 + (1 : Int))) (u0_3 ++ r4.1)
     else none
   else none
  else none
  else
  if (decide ((u0_3.length : Int) > (4096 : Int))) = true then
   some (([] : List Int), (5 : Int))
  else
   some (u0_3, (0 : Int))
def m_script_Write_l0 (N : Nat) : Nat → (List (Int × (Int × (Int × (Int × (ByteArray × (ByteArray × (ByteArray × (Int × Unit))))))))) → Int → Int → (List Int) → Option ((List Int) × Int)
  | 0, _, _, _, _ => none
  | n + 1, u0_0, u0_1, u0_2, u0_3 => m_script_Write_l0_b (m_script_Write_l0 N n) u0_0 u0_1 u0_2 u0_3
def m_script_Write_a (l0 : ((List (Int × (Int × (Int × (Int × (ByteArray × (ByteArray × (ByteArray × (Int × Unit))))))))) → Int → Int → (List Int) → Option ((List Int) × Int))) (x0 : (List (Int × (Int × (Int × (Int × (ByteArray × (ByteArray × (ByteArray × (Int × Unit)))))))))) : Option ((List Int) × Int) :=
  l0 x0 (x0.length : Int) (0 : Int) ([] : List Int)
def m_script_Write (x0 : (List (Int × (Int × (Int × (Int × (ByteArray × (ByteArray × (ByteArray × (Int × Unit)))))))))) : Option ((List Int) × Int) := m_script_Write_a (m_script_Write_l0 FUEL FUEL) x0
def m_ticketlinelaw04_writes (x0 : (List (Int × (Int × (Int × (Int × (ByteArray × (ByteArray × (ByteArray × (Int × Unit)))))))))) (x1 : (List Int)) (x2 : Int) : Option Bool :=
  Option.bind (m_script_Write x0) fun r1 =>
  if (strEq (strOf r1.1) (strOf x1)) = true then
  some (r1.2 == x2)
  else
  some false
def m_ticketlinelaw04_known : Option Bool :=
  some true
def m_ticketlineref04_Key_l0_b (s0 : (Int → Int → (List Int) → Option ByteArray)) (u0_0 : Int) (u0_1 : Int) (u0_2 : (List Int)) : Option ByteArray :=
  if (decide (u0_1 < (Int.tmod u0_0 (23 : Int)))) = true then
  let v10 := ([(120 : Int)] : List Int)
  if fits (List.length u0_2 + List.length v10) 1 then
   s0 u0_0 (IntKind.i64.wrap (u0_1 + (1 : Int))) (u0_2 ++ v10)
  else none
  else
  some (strOf u0_2)
def m_ticketlineref04_Key_l0 (N : Nat) : Nat → Int → Int → (List Int) → Option ByteArray
  | 0, _, _, _ => none
  | n + 1, u0_0, u0_1, u0_2 => m_ticketlineref04_Key_l0_b (m_ticketlineref04_Key_l0 N n) u0_0 u0_1 u0_2
def m_ticketlineref04_Key_a (l0 : (Int → Int → (List Int) → Option ByteArray)) (x0 : Int) : Option ByteArray :=
  l0 x0 (0 : Int) ([(IntKind.u8.wrap (IntKind.i64.wrap ((97 : Int) + (IntKind.i64.wrap (Int.tdiv x0 (16 : Int)))))), (IntKind.u8.wrap (IntKind.i64.wrap ((97 : Int) + (Int.tmod x0 (16 : Int)))))] : List Int)
def m_ticketlineref04_Key (x0 : Int) : Option ByteArray := m_ticketlineref04_Key_a (m_ticketlineref04_Key_l0 FUEL FUEL) x0
def m_ticketlineref04_Value_l0_b (s0 : (Int → Int → (List Int) → Option ByteArray)) (u0_0 : Int) (u0_1 : Int) (u0_2 : (List Int)) : Option ByteArray :=
  if (decide (u0_1 < (Int.tmod u0_0 (41 : Int)))) = true then
  let v6 := ([(IntKind.u8.wrap (IntKind.i64.wrap ((97 : Int) + (Int.tmod u0_0 (26 : Int)))))] : List Int)
  if fits (List.length u0_2 + List.length v6) 1 then
   s0 u0_0 (IntKind.i64.wrap (u0_1 + (1 : Int))) (u0_2 ++ v6)
  else none
  else
  some (strOf u0_2)
def m_ticketlineref04_Value_l0 (N : Nat) : Nat → Int → Int → (List Int) → Option ByteArray
  | 0, _, _, _ => none
  | n + 1, u0_0, u0_1, u0_2 => m_ticketlineref04_Value_l0_b (m_ticketlineref04_Value_l0 N n) u0_0 u0_1 u0_2
def m_ticketlineref04_Value_a (l0 : (Int → Int → (List Int) → Option ByteArray)) (x0 : Int) : Option ByteArray :=
  l0 x0 (0 : Int) ([] : List Int)
def m_ticketlineref04_Value (x0 : Int) : Option ByteArray := m_ticketlineref04_Value_a (m_ticketlineref04_Value_l0 FUEL FUEL) x0
def m_ticketlineref04_at (x0 : (List Int)) (x1 : Int) : Option Int :=
  if (decide (x1 ≥ (x0.length : Int))) = true then
  some (0 : Int)
  else
  if (0 : Int) ≤ x1 then
   if x1 < (x0.length : Int) then
    some (IntKind.i64.wrap (rd (.int .u8) x0 x1))
   else none
  else none
def m_ticketlineref04_head (x0 : Int) (x1 : Int) : Option (Int × (Int × (Int × (Int × (ByteArray × (ByteArray × (ByteArray × (Int × Unit)))))))) :=
  let v1 := (Int.tmod x0 (8 : Int))
  if (v1 == (3 : Int)) = true then
  some ((2 : Int), ((0 : Int), (x1, ((0 : Int), ((⟨#[]⟩ : ByteArray), ((⟨#[]⟩ : ByteArray), ((⟨#[]⟩ : ByteArray), ((0 : Int), ()))))))))
  else
  if (v1 == (4 : Int)) = true then
   some ((4 : Int), ((0 : Int), ((IntKind.i64.wrap ((Int.tmod x1 (8 : Int)) + (1 : Int))), ((0 : Int), ((⟨#[]⟩ : ByteArray), ((⟨#[]⟩ : ByteArray), ((⟨#[]⟩ : ByteArray), ((0 : Int), ()))))))))
  else
   if (v1 == (5 : Int)) = true then
    some ((3 : Int), ((0 : Int), ((0 : Int), ((IntKind.i64.wrap ((Int.tmod x1 (8 : Int)) + (1 : Int))), ((⟨#[]⟩ : ByteArray), ((⟨#[]⟩ : ByteArray), ((⟨#[]⟩ : ByteArray), ((IntKind.i64.wrap (Int.tdiv x1 (8 : Int))), ()))))))))
   else
    if (v1 == (6 : Int)) = true then
     some ((3 : Int), ((0 : Int), ((0 : Int), ((IntKind.i64.wrap ((Int.tmod x1 (8 : Int)) + (1 : Int))), ((⟨#[]⟩ : ByteArray), ((⟨#[]⟩ : ByteArray), ((⟨#[]⟩ : ByteArray), ((IntKind.i64.wrap (Int.tdiv x1 (8 : Int))), ()))))))))
    else
     if (v1 == (7 : Int)) = true then
      some ((3 : Int), ((0 : Int), ((0 : Int), ((IntKind.i64.wrap ((Int.tmod x1 (8 : Int)) + (1 : Int))), ((⟨#[]⟩ : ByteArray), ((⟨#[]⟩ : ByteArray), ((⟨#[]⟩ : ByteArray), ((IntKind.i64.wrap (Int.tdiv x1 (8 : Int))), ()))))))))
     else
      some ((1 : Int), ((0 : Int), ((IntKind.i64.wrap ((Int.tmod x1 (16 : Int)) + (1 : Int))), ((0 : Int), ((⟨#[]⟩ : ByteArray), ((⟨#[]⟩ : ByteArray), ((⟨#[]⟩ : ByteArray), ((0 : Int), ()))))))))
def m_ticketlineref04_threaded (x0 : Int) : Option Bool :=
  if (x0 == (1 : Int)) = true then
  some true
  else
  some (x0 == (3 : Int))
def m_ticketlineref04_needs (x0 : Int) : Option ByteArray :=
  if (x0 == (1 : Int)) = true then
  some (⟨#[107]⟩ : ByteArray)
  else
  if (x0 == (4 : Int)) = true then
   some (⟨#[107]⟩ : ByteArray)
  else
   if (x0 == (2 : Int)) = true then
    some (⟨#[107, 118]⟩ : ByteArray)
   else
    if (x0 == (3 : Int)) = true then
     some (⟨#[107, 118]⟩ : ByteArray)
    else
     if (x0 == (5 : Int)) = true then
      some (⟨#[107, 111, 118]⟩ : ByteArray)
     else
      if (x0 == (6 : Int)) = true then
       some (⟨#[107, 110]⟩ : ByteArray)
      else
       some (⟨#[]⟩ : ByteArray)
def m_ticketlineref04_Next_l0_b (s0 : ((List Int) → ByteArray → Int → Int → Int → Int → Int → ByteArray → ByteArray → ByteArray → Int → Int → Int → Int → Int → ByteArray → ByteArray → ByteArray → Int → Option ((Int × (Int × (Int × (Int × (ByteArray × (ByteArray × (ByteArray × (Int × Unit)))))))) × Int))) (u0_0 : (List Int)) (u0_1 : ByteArray) (u0_2 : Int) (u0_3 : Int) (u0_4 : Int) (u0_5 : Int) (u0_6 : Int) (u0_7 : ByteArray) (u0_8 : ByteArray) (u0_9 : ByteArray) (u0_10 : Int) (u0_11 : Int) (u0_12 : Int) (u0_13 : Int) (u0_14 : Int) (u0_15 : ByteArray) (u0_16 : ByteArray) (u0_17 : ByteArray) (u0_18 : Int) : Option ((Int × (Int × (Int × (Int × (ByteArray × (ByteArray × (ByteArray × (Int × Unit)))))))) × Int) :=
  if (decide (u0_2 < (u0_1.size : Int))) = true then
  Option.bind (m_ticketlineref04_at u0_0 (IntKind.i64.wrap ((2 : Int) + u0_2))) fun r12 =>
  if (0 : Int) ≤ u0_2 then
   if u0_2 < (u0_1.size : Int) then
    if ((bt u0_1 u0_2) == (107 : Int)) = true then
     Option.bind (m_ticketlineref04_Key r12) fun r14 =>
     s0 u0_0 u0_1 (IntKind.i64.wrap (u0_2 + (1 : Int))) u0_3 u0_4 u0_5 u0_6 u0_7 u0_8 u0_9 u0_10 u0_11 u0_12 u0_13 u0_14 r14 u0_16 u0_17 u0_18
    else
     if ((bt u0_1 u0_2) == (111 : Int)) = true then
      Option.bind (m_ticketlineref04_Value r12) fun r17 =>
      s0 u0_0 u0_1 (IntKind.i64.wrap (u0_2 + (1 : Int))) u0_3 u0_4 u0_5 u0_6 u0_7 u0_8 u0_9 u0_10 u0_11 u0_12 u0_13 u0_14 u0_15 u0_16 r17 u0_18
     else
      if ((bt u0_1 u0_2) == (118 : Int)) = true then
       Option.bind (m_ticketlineref04_Value r12) fun r20 =>
       s0 u0_0 u0_1 (IntKind.i64.wrap (u0_2 + (1 : Int))) u0_3 u0_4 u0_5 u0_6 u0_7 u0_8 u0_9 u0_10 u0_11 u0_12 u0_13 u0_14 u0_15 r20 u0_17 u0_18
      else
       s0 u0_0 u0_1 (IntKind.i64.wrap (u0_2 + (1 : Int))) u0_3 u0_4 u0_5 u0_6 u0_7 u0_8 u0_9 u0_10 u0_11 u0_12 (IntKind.i64.wrap ((Int.tmod r12 (32 : Int)) + (1 : Int))) u0_14 u0_15 u0_16 u0_17 u0_18
   else none
  else none
  else
  some ((u0_11, (u0_12, (u0_13, (u0_14, (u0_15, (u0_16, (u0_17, (u0_18, ())))))))), (IntKind.i64.wrap ((2 : Int) + (u0_1.size : Int))))
def m_ticketlineref04_Next_l0 (N : Nat) : Nat → (List Int) → ByteArray → Int → Int → Int → Int → Int → ByteArray → ByteArray → ByteArray → Int → Int → Int → Int → Int → ByteArray → ByteArray → ByteArray → Int → Option ((Int × (Int × (Int × (Int × (ByteArray × (ByteArray × (ByteArray × (Int × Unit)))))))) × Int)
  | 0, _, _, _, _, _, _, _, _, _, _, _, _, _, _, _, _, _, _, _ => none
  | n + 1, u0_0, u0_1, u0_2, u0_3, u0_4, u0_5, u0_6, u0_7, u0_8, u0_9, u0_10, u0_11, u0_12, u0_13, u0_14, u0_15, u0_16, u0_17, u0_18 => m_ticketlineref04_Next_l0_b (m_ticketlineref04_Next_l0 N n) u0_0 u0_1 u0_2 u0_3 u0_4 u0_5 u0_6 u0_7 u0_8 u0_9 u0_10 u0_11 u0_12 u0_13 u0_14 u0_15 u0_16 u0_17 u0_18
def m_ticketlineref04_Next_a (l0 : ((List Int) → ByteArray → Int → Int → Int → Int → Int → ByteArray → ByteArray → ByteArray → Int → Int → Int → Int → Int → ByteArray → ByteArray → ByteArray → Int → Option ((Int × (Int × (Int × (Int × (ByteArray × (ByteArray × (ByteArray × (Int × Unit)))))))) × Int))) (x0 : (List Int)) (x1 : Int) : Option ((Int × (Int × (Int × (Int × (ByteArray × (ByteArray × (ByteArray × (Int × Unit)))))))) × Int) :=
  Option.bind (m_ticketlineref04_at x0 (0 : Int)) fun r1 =>
  Option.bind (m_ticketlineref04_at x0 (1 : Int)) fun r2 =>
  Option.bind (m_ticketlineref04_head r1 r2) fun r3 =>
  Option.bind (m_ticketlineref04_threaded r3.1) fun r4 =>
  if r4 = true then
  if x1 ≠ 0 then
   let v6 := (Int.tmod (IntKind.i64.wrap (Int.tdiv r1 (8 : Int))) x1)
   if (r3.1 != (3 : Int)) = true then
    some ((r3.1, (v6, r3.2.2)), (2 : Int))
   else
    Option.bind (m_ticketlineref04_needs r3.2.2.2.1) fun r8 =>
    l0 x0 r8 (0 : Int) (0 : Int) (0 : Int) (0 : Int) (0 : Int) (⟨#[]⟩ : ByteArray) (⟨#[]⟩ : ByteArray) (⟨#[]⟩ : ByteArray) (0 : Int) r3.1 v6 r3.2.2.1 r3.2.2.2.1 r3.2.2.2.2.1 r3.2.2.2.2.2.1 r3.2.2.2.2.2.2.1 r3.2.2.2.2.2.2.2.1
  else none
  else
  if (r3.1 != (3 : Int)) = true then
   some (r3, (2 : Int))
  else
   Option.bind (m_ticketlineref04_needs r3.2.2.2.1) fun r28 =>
   l0 x0 r28 (0 : Int) (0 : Int) (0 : Int) (0 : Int) (0 : Int) (⟨#[]⟩ : ByteArray) (⟨#[]⟩ : ByteArray) (⟨#[]⟩ : ByteArray) (0 : Int) r3.1 r3.2.1 r3.2.2.1 r3.2.2.2.1 r3.2.2.2.2.1 r3.2.2.2.2.2.1 r3.2.2.2.2.2.2.1 r3.2.2.2.2.2.2.2.1
def m_ticketlineref04_Next (x0 : (List Int)) (x1 : Int) : Option ((Int × (Int × (Int × (Int × (ByteArray × (ByteArray × (ByteArray × (Int × Unit)))))))) × Int) := m_ticketlineref04_Next_a (m_ticketlineref04_Next_l0 FUEL FUEL) x0 x1
def m_ticketlineref04_Parse_l0_b (s0 : ((List Int) → Int → (List (Int × (Int × (Int × (Int × (ByteArray × (ByteArray × (ByteArray × (Int × Unit))))))))) → Option (List (Int × (Int × (Int × (Int × (ByteArray × (ByteArray × (ByteArray × (Int × Unit))))))))))) (u0_0 : (List Int)) (u0_1 : Int) (u0_2 : (List (Int × (Int × (Int × (Int × (ByteArray × (ByteArray × (ByteArray × (Int × Unit)))))))))) : Option (List (Int × (Int × (Int × (Int × (ByteArray × (ByteArray × (ByteArray × (Int × Unit))))))))) :=
  if (decide ((u0_0.length : Int) > (0 : Int))) = true then
  Option.bind (m_ticketlineref04_Next u0_0 u0_1) fun r3 =>
  let v4 := ([r3.1] : List (Int × (Int × (Int × (Int × (ByteArray × (ByteArray × (ByteArray × (Int × Unit)))))))))
  if fits (List.length u0_2 + List.length v4) 88 then
   let v5 := (u0_0.length : Int)
   if (0 : Int) ≤ (u0_0.length : Int) then
    if (u0_0.length : Int) ≤ (u0_0.length : Int) then
     if (0 : Int) ≤ (mn r3.2 v5) then
      if (mn r3.2 v5) ≤ (u0_0.length : Int) then
       s0 (win u0_0 (mn r3.2 v5) ((u0_0.length : Int) - (mn r3.2 v5))) u0_1 (u0_2 ++ v4)
      else none
     else none
    else none
   else none
  else none
  else
  some u0_2
def m_ticketlineref04_Parse_l0 (N : Nat) : Nat → (List Int) → Int → (List (Int × (Int × (Int × (Int × (ByteArray × (ByteArray × (ByteArray × (Int × Unit))))))))) → Option (List (Int × (Int × (Int × (Int × (ByteArray × (ByteArray × (ByteArray × (Int × Unit)))))))))
  | 0, _, _, _ => none
  | n + 1, u0_0, u0_1, u0_2 => m_ticketlineref04_Parse_l0_b (m_ticketlineref04_Parse_l0 N n) u0_0 u0_1 u0_2
def m_ticketlineref04_Parse_a (l0 : ((List Int) → Int → (List (Int × (Int × (Int × (Int × (ByteArray × (ByteArray × (ByteArray × (Int × Unit))))))))) → Option (List (Int × (Int × (Int × (Int × (ByteArray × (ByteArray × (ByteArray × (Int × Unit))))))))))) (x0 : (List Int)) (x1 : Int) : Option (List (Int × (Int × (Int × (Int × (ByteArray × (ByteArray × (ByteArray × (Int × Unit))))))))) :=
  l0 x0 x1 ([] : List (Int × (Int × (Int × (Int × (ByteArray × (ByteArray × (ByteArray × (Int × Unit)))))))))
def m_ticketlineref04_Parse (x0 : (List Int)) (x1 : Int) : Option (List (Int × (Int × (Int × (Int × (ByteArray × (ByteArray × (ByteArray × (Int × Unit))))))))) := m_ticketlineref04_Parse_a (m_ticketlineref04_Parse_l0 FUEL FUEL) x0 x1
def m_ticketlinelaw04_ScriptParses (x0 : (List Int)) (x1 : Int) : Option Bool :=
  if (decide ((x0.length : Int) > (300 : Int))) = true then
  Option.bind (m_ticketlinelaw04_known) fun r3 =>
  some r3
  else
  if (decide (x1 < (1 : Int))) = true then
   Option.bind (m_ticketlinelaw04_parses x0 x1 (2 : Int) ([] : List (Int × (Int × (Int × (Int × (ByteArray × (ByteArray × (ByteArray × (Int × Unit)))))))))) fun r5 =>
   if r5 = true then
    Option.bind (m_ticketlinelaw04_next x0 x1 ((0 : Int), ((0 : Int), ((0 : Int), ((0 : Int), ((⟨#[]⟩ : ByteArray), ((⟨#[]⟩ : ByteArray), ((⟨#[]⟩ : ByteArray), ((0 : Int), ())))))))) (0 : Int) (2 : Int)) fun r6 =>
    if r6 = true then
     Option.bind (m_ticketlinelaw04_known) fun r7 =>
     some r7
    else
     some false
   else
    some false
  else
   if (decide (x1 > (64 : Int))) = true then
    Option.bind (m_ticketlinelaw04_parses x0 x1 (2 : Int) ([] : List (Int × (Int × (Int × (Int × (ByteArray × (ByteArray × (ByteArray × (Int × Unit)))))))))) fun r9 =>
    if r9 = true then
     Option.bind (m_ticketlinelaw04_next x0 x1 ((0 : Int), ((0 : Int), ((0 : Int), ((0 : Int), ((⟨#[]⟩ : ByteArray), ((⟨#[]⟩ : ByteArray), ((⟨#[]⟩ : ByteArray), ((0 : Int), ())))))))) (0 : Int) (2 : Int)) fun r10 =>
     if r10 = true then
      Option.bind (m_ticketlinelaw04_known) fun r11 =>
      some r11
     else
      some false
    else
     some false
   else
    Option.bind (m_ticketlineref04_Parse x0 x1) fun r12 =>
    Option.bind (m_ticketlinelaw04_parses x0 x1 (0 : Int) r12) fun r13 =>
    if (!r13) = true then
     some false
    else
     if ((x0.length : Int) == (0 : Int)) = true then
      Option.bind (m_ticketlinelaw04_next x0 x1 ((0 : Int), ((0 : Int), ((0 : Int), ((0 : Int), ((⟨#[]⟩ : ByteArray), ((⟨#[]⟩ : ByteArray), ((⟨#[]⟩ : ByteArray), ((0 : Int), ())))))))) (0 : Int) (4 : Int)) fun r16 =>
      if r16 = true then
       Option.bind (m_ticketlinelaw04_known) fun r17 =>
       some r17
      else
       some false
     else
      Option.bind (m_ticketlineref04_Next x0 x1) fun r18 =>
      Option.bind (m_ticketlinelaw04_next x0 x1 r18.1 (mn r18.2 (x0.length : Int)) (0 : Int)) fun r20 =>
      if r20 = true then
       Option.bind (m_ticketlinelaw04_known) fun r21 =>
       some r21
      else
       some false
def m_ticketlinelaw04_few_l0_b (s0 : ((List (Int × (Int × (Int × (Int × (ByteArray × (ByteArray × (ByteArray × (Int × Unit))))))))) → Int → Int → Option Bool)) (u0_0 : (List (Int × (Int × (Int × (Int × (ByteArray × (ByteArray × (ByteArray × (Int × Unit)))))))))) (u0_1 : Int) (u0_2 : Int) : Option Bool :=
  if (decide (u0_2 < (u0_0.length : Int))) = true then
  if (decide (u0_2 ≤ u0_1)) = true then
   if (0 : Int) ≤ u0_2 then
    if u0_2 < (u0_0.length : Int) then
     if (decide (((rd (.pair (.int .i64) (.pair (.int .i64) (.pair (.int .i64) (.pair (.int .i64) (.pair .str (.pair .str (.pair .str (.pair (.int .i64) .nl)))))))) u0_0 u0_2).2.2.2.2.1.size : Int) > (60 : Int))) = true then
      some false
     else
      if (0 : Int) ≤ u0_2 then
       if u0_2 < (u0_0.length : Int) then
        if (decide (((rd (.pair (.int .i64) (.pair (.int .i64) (.pair (.int .i64) (.pair (.int .i64) (.pair .str (.pair .str (.pair .str (.pair (.int .i64) .nl)))))))) u0_0 u0_2).2.2.2.2.2.1.size : Int) > (60 : Int))) = true then
         some false
        else
         if (0 : Int) ≤ u0_2 then
          if u0_2 < (u0_0.length : Int) then
           if (decide (((rd (.pair (.int .i64) (.pair (.int .i64) (.pair (.int .i64) (.pair (.int .i64) (.pair .str (.pair .str (.pair .str (.pair (.int .i64) .nl)))))))) u0_0 u0_2).2.2.2.2.2.2.1.size : Int) > (60 : Int))) = true then
            some false
           else
            s0 u0_0 u0_1 (IntKind.i64.wrap (u0_2 + (1 : Int)))
          else none
         else none
       else none
      else none
    else none
   else none
  else
   some (decide ((u0_0.length : Int) ≤ u0_1))
  else
  some (decide ((u0_0.length : Int) ≤ u0_1))
def m_ticketlinelaw04_few_l0 (N : Nat) : Nat → (List (Int × (Int × (Int × (Int × (ByteArray × (ByteArray × (ByteArray × (Int × Unit))))))))) → Int → Int → Option Bool
  | 0, _, _, _ => none
  | n + 1, u0_0, u0_1, u0_2 => m_ticketlinelaw04_few_l0_b (m_ticketlinelaw04_few_l0 N n) u0_0 u0_1 u0_2
def m_ticketlinelaw04_few_a (l0 : ((List (Int × (Int × (Int × (Int × (ByteArray × (ByteArray × (ByteArray × (Int × Unit))))))))) → Int → Int → Option Bool)) (x0 : (List (Int × (Int × (Int × (Int × (ByteArray × (ByteArray × (ByteArray × (Int × Unit)))))))))) (x1 : Int) : Option Bool :=
  l0 x0 x1 (0 : Int)
def m_ticketlinelaw04_few (x0 : (List (Int × (Int × (Int × (Int × (ByteArray × (ByteArray × (ByteArray × (Int × Unit)))))))))) (x1 : Int) : Option Bool := m_ticketlinelaw04_few_a (m_ticketlinelaw04_few_l0 FUEL FUEL) x0 x1
def m_ticketlineref04_least_l0_b (s0 : (Int → Int → Int → Int → Int → Int → ByteArray → ByteArray → ByteArray → Int → Option (Int × Bool))) (u0_0 : Int) (u0_1 : Int) (u0_2 : Int) (u0_3 : Int) (u0_4 : Int) (u0_5 : Int) (u0_6 : ByteArray) (u0_7 : ByteArray) (u0_8 : ByteArray) (u0_9 : Int) : Option (Int × Bool) :=
  if (decide (u0_1 < (256 : Int))) = true then
  if (u0_0 == (107 : Int)) = true then
   Option.bind (m_ticketlineref04_Key u0_1) fun r3 =>
   if (strEq r3 u0_6) = true then
    some ((IntKind.u8.wrap u0_1), true)
   else
    s0 u0_0 (IntKind.i64.wrap (u0_1 + (1 : Int))) u0_2 u0_3 u0_4 u0_5 u0_6 u0_7 u0_8 u0_9
  else
   if (u0_0 == (111 : Int)) = true then
    Option.bind (m_ticketlineref04_Value u0_1) fun r7 =>
    if (strEq r7 u0_8) = true then
     some ((IntKind.u8.wrap u0_1), true)
    else
     s0 u0_0 (IntKind.i64.wrap (u0_1 + (1 : Int))) u0_2 u0_3 u0_4 u0_5 u0_6 u0_7 u0_8 u0_9
   else
    if (u0_0 == (118 : Int)) = true then
     Option.bind (m_ticketlineref04_Value u0_1) fun r11 =>
     if (strEq r11 u0_7) = true then
      some ((IntKind.u8.wrap u0_1), true)
     else
      s0 u0_0 (IntKind.i64.wrap (u0_1 + (1 : Int))) u0_2 u0_3 u0_4 u0_5 u0_6 u0_7 u0_8 u0_9
    else
     if ((IntKind.i64.wrap ((Int.tmod u0_1 (32 : Int)) + (1 : Int))) == u0_4) = true then
      some ((IntKind.u8.wrap u0_1), true)
     else
      s0 u0_0 (IntKind.i64.wrap (u0_1 + (1 : Int))) u0_2 u0_3 u0_4 u0_5 u0_6 u0_7 u0_8 u0_9
  else
  some ((0 : Int), false)
def m_ticketlineref04_least_l0 (N : Nat) : Nat → Int → Int → Int → Int → Int → Int → ByteArray → ByteArray → ByteArray → Int → Option (Int × Bool)
  | 0, _, _, _, _, _, _, _, _, _, _ => none
  | n + 1, u0_0, u0_1, u0_2, u0_3, u0_4, u0_5, u0_6, u0_7, u0_8, u0_9 => m_ticketlineref04_least_l0_b (m_ticketlineref04_least_l0 N n) u0_0 u0_1 u0_2 u0_3 u0_4 u0_5 u0_6 u0_7 u0_8 u0_9
def m_ticketlineref04_least_a (l0 : (Int → Int → Int → Int → Int → Int → ByteArray → ByteArray → ByteArray → Int → Option (Int × Bool))) (x0 : (Int × (Int × (Int × (Int × (ByteArray × (ByteArray × (ByteArray × (Int × Unit))))))))) (x1 : Int) : Option (Int × Bool) :=
  l0 x1 (0 : Int) x0.1 x0.2.1 x0.2.2.1 x0.2.2.2.1 x0.2.2.2.2.1 x0.2.2.2.2.2.1 x0.2.2.2.2.2.2.1 x0.2.2.2.2.2.2.2.1
def m_ticketlineref04_least (x0 : (Int × (Int × (Int × (Int × (ByteArray × (ByteArray × (ByteArray × (Int × Unit))))))))) (x1 : Int) : Option (Int × Bool) := m_ticketlineref04_least_a (m_ticketlineref04_least_l0 FUEL FUEL) x0 x1
def m_ticketlineref04_Bytes_l2_b (s0 : (Int → Int → Int → Int → Int → ByteArray → ByteArray → ByteArray → Int → Option ((List Int) × Bool))) (s1 : (Int → Int → Int → Int → Int → Int → ByteArray → ByteArray → ByteArray → Int → Option ((List Int) × Bool))) (s2 : (ByteArray → Int → Int → Int → Int → Int → ByteArray → ByteArray → ByteArray → Int → Int → Int → Int → Int → ByteArray → ByteArray → ByteArray → Int → (List Int) → Option ((List Int) × Bool))) (u2_0 : ByteArray) (u2_1 : Int) (u2_2 : Int) (u2_3 : Int) (u2_4 : Int) (u2_5 : Int) (u2_6 : ByteArray) (u2_7 : ByteArray) (u2_8 : ByteArray) (u2_9 : Int) (u2_10 : Int) (u2_11 : Int) (u2_12 : Int) (u2_13 : Int) (u2_14 : ByteArray) (u2_15 : ByteArray) (u2_16 : ByteArray) (u2_17 : Int) (u2_18 : (List Int)) : Option ((List Int) × Bool) :=
  if (u2_10 == (3 : Int)) = true then
  if (decide (u2_1 < (u2_0.size : Int))) = true then
   if (0 : Int) ≤ u2_1 then
    if u2_1 < (u2_0.size : Int) then
     Option.bind (m_ticketlineref04_least (u2_2, (u2_3, (u2_4, (u2_5, (u2_6, (u2_7, (u2_8, (u2_9, ())))))))) (bt u2_0 u2_1)) fun r22 =>
     if (!r22.2) = true then
      some (([] : List Int), false)
     else
      let v23 := ([r22.1] : List Int)
      if fits (List.length u2_18 + List.length v23) 1 then
       s2 u2_0 (IntKind.i64.wrap (u2_1 + (1 : Int))) u2_2 u2_3 u2_4 u2_5 u2_6 u2_7 u2_8 u2_9 u2_10 u2_11 u2_12 u2_13 u2_14 u2_15 u2_16 u2_17 (u2_18 ++ v23)
      else none
    else none
   else none
  else
   Option.bind (m_ticketlineref04_Next u2_18 (64 : Int)) fun r25 =>
   if (Ty.beq (.pair (.int .i64) (.pair (.int .i64) (.pair (.int .i64) (.pair (.int .i64) (.pair .str (.pair .str (.pair .str (.pair (.int .i64) .nl)))))))) r25.1 (u2_2, (u2_3, (u2_4, (u2_5, (u2_6, (u2_7, (u2_8, (u2_9, ()))))))))) = true then
    some (u2_18, (r25.2 == (u2_18.length : Int)))
   else
    some (u2_18, false)
  else
  Option.bind (m_ticketlineref04_Next u2_18 (64 : Int)) fun r28 =>
  if (Ty.beq (.pair (.int .i64) (.pair (.int .i64) (.pair (.int .i64) (.pair (.int .i64) (.pair .str (.pair .str (.pair .str (.pair (.int .i64) .nl)))))))) r28.1 (u2_2, (u2_3, (u2_4, (u2_5, (u2_6, (u2_7, (u2_8, (u2_9, ()))))))))) = true then
   some (u2_18, (r28.2 == (u2_18.length : Int)))
  else
   some (u2_18, false)
def m_ticketlineref04_Bytes_l2 (N : Nat) (s0 : (Int → Int → Int → Int → Int → ByteArray → ByteArray → ByteArray → Int → Option ((List Int) × Bool))) (s1 : (Int → Int → Int → Int → Int → Int → ByteArray → ByteArray → ByteArray → Int → Option ((List Int) × Bool))) : Nat → ByteArray → Int → Int → Int → Int → Int → ByteArray → ByteArray → ByteArray → Int → Int → Int → Int → Int → ByteArray → ByteArray → ByteArray → Int → (List Int) → Option ((List Int) × Bool)
  | 0, _, _, _, _, _, _, _, _, _, _, _, _, _, _, _, _, _, _, _ => none
  | n + 1, u2_0, u2_1, u2_2, u2_3, u2_4, u2_5, u2_6, u2_7, u2_8, u2_9, u2_10, u2_11, u2_12, u2_13, u2_14, u2_15, u2_16, u2_17, u2_18 => m_ticketlineref04_Bytes_l2_b s0 s1 (m_ticketlineref04_Bytes_l2 N s0 s1 n) u2_0 u2_1 u2_2 u2_3 u2_4 u2_5 u2_6 u2_7 u2_8 u2_9 u2_10 u2_11 u2_12 u2_13 u2_14 u2_15 u2_16 u2_17 u2_18
def m_ticketlineref04_Bytes_l1_b (s0 : (Int → Int → Int → Int → Int → ByteArray → ByteArray → ByteArray → Int → Option ((List Int) × Bool))) (s1 : (Int → Int → Int → Int → Int → Int → ByteArray → ByteArray → ByteArray → Int → Option ((List Int) × Bool))) (l2 : (ByteArray → Int → Int → Int → Int → Int → ByteArray → ByteArray → ByteArray → Int → Int → Int → Int → Int → ByteArray → ByteArray → ByteArray → Int → (List Int) → Option ((List Int) × Bool))) (u1_0 : Int) (u1_1 : Int) (u1_2 : Int) (u1_3 : Int) (u1_4 : Int) (u1_5 : Int) (u1_6 : ByteArray) (u1_7 : ByteArray) (u1_8 : ByteArray) (u1_9 : Int) : Option ((List Int) × Bool) :=
  if (decide (u1_1 < (256 : Int))) = true then
  Option.bind (m_ticketlineref04_head u1_0 u1_1) fun r3 =>
  if (r3.1 != u1_2) = true then
   s0 (IntKind.i64.wrap (u1_0 + (1 : Int))) u1_2 u1_3 u1_4 u1_5 u1_6 u1_7 u1_8 u1_9
  else
   Option.bind (m_ticketlineref04_threaded r3.1) fun r5 =>
   if r5 = true then
    let v6 := (IntKind.i64.wrap (Int.tdiv u1_0 (8 : Int)))
    if (v6 != u1_3) = true then
     s1 u1_0 (IntKind.i64.wrap (u1_1 + (1 : Int))) u1_2 u1_3 u1_4 u1_5 u1_6 u1_7 u1_8 u1_9
    else
     if (r3.2.2.2.1 != u1_5) = true then
      s1 u1_0 (IntKind.i64.wrap (u1_1 + (1 : Int))) u1_2 u1_3 u1_4 u1_5 u1_6 u1_7 u1_8 u1_9
     else
      if (r3.2.2.2.2.2.2.2.1 != u1_9) = true then
       s1 u1_0 (IntKind.i64.wrap (u1_1 + (1 : Int))) u1_2 u1_3 u1_4 u1_5 u1_6 u1_7 u1_8 u1_9
      else
       if (r3.1 != (3 : Int)) = true then
        if (r3.2.2.1 != u1_4) = true then
         s1 u1_0 (IntKind.i64.wrap (u1_1 + (1 : Int))) u1_2 u1_3 u1_4 u1_5 u1_6 u1_7 u1_8 u1_9
        else
         Option.bind (m_ticketlineref04_needs u1_5) fun r18 =>
         l2 r18 (0 : Int) u1_2 u1_3 u1_4 u1_5 u1_6 u1_7 u1_8 u1_9 r3.1 v6 r3.2.2.1 r3.2.2.2.1 r3.2.2.2.2.1 r3.2.2.2.2.2.1 r3.2.2.2.2.2.2.1 r3.2.2.2.2.2.2.2.1 ([(IntKind.u8.wrap u1_0), (IntKind.u8.wrap u1_1)] : List Int)
       else
        Option.bind (m_ticketlineref04_needs u1_5) fun r34 =>
        l2 r34 (0 : Int) u1_2 u1_3 u1_4 u1_5 u1_6 u1_7 u1_8 u1_9 r3.1 v6 r3.2.2.1 r3.2.2.2.1 r3.2.2.2.2.1 r3.2.2.2.2.2.1 r3.2.2.2.2.2.2.1 r3.2.2.2.2.2.2.2.1 ([(IntKind.u8.wrap u1_0), (IntKind.u8.wrap u1_1)] : List Int)
   else
    if (r3.2.1 != u1_3) = true then
     s1 u1_0 (IntKind.i64.wrap (u1_1 + (1 : Int))) u1_2 u1_3 u1_4 u1_5 u1_6 u1_7 u1_8 u1_9
    else
     if (r3.2.2.2.1 != u1_5) = true then
      s1 u1_0 (IntKind.i64.wrap (u1_1 + (1 : Int))) u1_2 u1_3 u1_4 u1_5 u1_6 u1_7 u1_8 u1_9
     else
      if (r3.2.2.2.2.2.2.2.1 != u1_9) = true then
       s1 u1_0 (IntKind.i64.wrap (u1_1 + (1 : Int))) u1_2 u1_3 u1_4 u1_5 u1_6 u1_7 u1_8 u1_9
      else
       if (r3.1 != (3 : Int)) = true then
        if (r3.2.2.1 != u1_4) = true then
         s1 u1_0 (IntKind.i64.wrap (u1_1 + (1 : Int))) u1_2 u1_3 u1_4 u1_5 u1_6 u1_7 u1_8 u1_9
        else
         Option.bind (m_ticketlineref04_needs u1_5) fun r47 =>
         l2 r47 (0 : Int) u1_2 u1_3 u1_4 u1_5 u1_6 u1_7 u1_8 u1_9 r3.1 r3.2.1 r3.2.2.1 r3.2.2.2.1 r3.2.2.2.2.1 r3.2.2.2.2.2.1 r3.2.2.2.2.2.2.1 r3.2.2.2.2.2.2.2.1 ([(IntKind.u8.wrap u1_0), (IntKind.u8.wrap u1_1)] : List Int)
       else
        Option.bind (m_ticketlineref04_needs u1_5) fun r51 =>
        l2 r51 (0 : Int) u1_2 u1_3 u1_4 u1_5 u1_6 u1_7 u1_8 u1_9 r3.1 r3.2.1 r3.2.2.1 r3.2.2.2.1 r3.2.2.2.2.1 r3.2.2.2.2.2.1 r3.2.2.2.2.2.2.1 r3.2.2.2.2.2.2.2.1 ([(IntKind.u8.wrap u1_0), (IntKind.u8.wrap u1_1)] : List Int)
  else
  s0 (IntKind.i64.wrap (u1_0 + (1 : Int))) u1_2 u1_3 u1_4 u1_5 u1_6 u1_7 u1_8 u1_9
def m_ticketlineref04_Bytes_l1 (N : Nat) (s0 : (Int → Int → Int → Int → Int → ByteArray → ByteArray → ByteArray → Int → Option ((List Int) × Bool))) : Nat → Int → Int → Int → Int → Int → Int → ByteArray → ByteArray → ByteArray → Int → Option ((List Int) × Bool)
  | 0, _, _, _, _, _, _, _, _, _, _ => none
  | n + 1, u1_0, u1_1, u1_2, u1_3, u1_4, u1_5, u1_6, u1_7, u1_8, u1_9 => m_ticketlineref04_Bytes_l1_b s0 (m_ticketlineref04_Bytes_l1 N s0 n) (m_ticketlineref04_Bytes_l2 N s0 (m_ticketlineref04_Bytes_l1 N s0 n) N) u1_0 u1_1 u1_2 u1_3 u1_4 u1_5 u1_6 u1_7 u1_8 u1_9
def m_ticketlineref04_Bytes_l0_b (s0 : (Int → Int → Int → Int → Int → ByteArray → ByteArray → ByteArray → Int → Option ((List Int) × Bool))) (l1 : (Int → Int → Int → Int → Int → Int → ByteArray → ByteArray → ByteArray → Int → Option ((List Int) × Bool))) (u0_0 : Int) (u0_1 : Int) (u0_2 : Int) (u0_3 : Int) (u0_4 : Int) (u0_5 : ByteArray) (u0_6 : ByteArray) (u0_7 : ByteArray) (u0_8 : Int) : Option ((List Int) × Bool) :=
  if (decide (u0_0 < (256 : Int))) = true then
  l1 u0_0 (0 : Int) u0_1 u0_2 u0_3 u0_4 u0_5 u0_6 u0_7 u0_8
  else
  some (([] : List Int), false)
def m_ticketlineref04_Bytes_l0 (N : Nat) : Nat → Int → Int → Int → Int → Int → ByteArray → ByteArray → ByteArray → Int → Option ((List Int) × Bool)
  | 0, _, _, _, _, _, _, _, _, _ => none
  | n + 1, u0_0, u0_1, u0_2, u0_3, u0_4, u0_5, u0_6, u0_7, u0_8 => m_ticketlineref04_Bytes_l0_b (m_ticketlineref04_Bytes_l0 N n) (m_ticketlineref04_Bytes_l1 N (m_ticketlineref04_Bytes_l0 N n) N) u0_0 u0_1 u0_2 u0_3 u0_4 u0_5 u0_6 u0_7 u0_8
def m_ticketlineref04_Bytes_a (l0 : (Int → Int → Int → Int → Int → ByteArray → ByteArray → ByteArray → Int → Option ((List Int) × Bool))) (x0 : (Int × (Int × (Int × (Int × (ByteArray × (ByteArray × (ByteArray × (Int × Unit))))))))) : Option ((List Int) × Bool) :=
  l0 (0 : Int) x0.1 x0.2.1 x0.2.2.1 x0.2.2.2.1 x0.2.2.2.2.1 x0.2.2.2.2.2.1 x0.2.2.2.2.2.2.1 x0.2.2.2.2.2.2.2.1
def m_ticketlineref04_Bytes (x0 : (Int × (Int × (Int × (Int × (ByteArray × (ByteArray × (ByteArray × (Int × Unit))))))))) : Option ((List Int) × Bool) := m_ticketlineref04_Bytes_a (m_ticketlineref04_Bytes_l0 FUEL FUEL) x0
def m_ticketlinelaw04_ScriptWrites_l0_b (s0 : ((List (Int × (Int × (Int × (Int × (ByteArray × (ByteArray × (ByteArray × (Int × Unit))))))))) → Bool → (List (Int × (Int × (Int × (Int × (ByteArray × (ByteArray × (ByteArray × (Int × Unit))))))))) → Int → Int → (List Int) → Option Bool)) (u0_0 : (List (Int × (Int × (Int × (Int × (ByteArray × (ByteArray × (ByteArray × (Int × Unit)))))))))) (u0_1 : Bool) (u0_2 : (List (Int × (Int × (Int × (Int × (ByteArray × (ByteArray × (ByteArray × (Int × Unit)))))))))) (u0_3 : Int) (u0_4 : Int) (u0_5 : (List Int)) : Option Bool :=
  if (decide (u0_4 < u0_3)) = true then
  if (0 : Int) ≤ u0_4 then
   if u0_4 < (u0_2.length : Int) then
    let v5 := (rd (.pair (.int .i64) (.pair (.int .i64) (.pair (.int .i64) (.pair (.int .i64) (.pair .str (.pair .str (.pair .str (.pair (.int .i64) .nl)))))))) u0_2 u0_4)
    Option.bind (m_ticketlineref04_Bytes v5) fun r6 =>
    Option.bind (m_script_Valid v5) fun r7 =>
    if (!(r7 == r6.2)) = true then
     some false
    else
     if u0_1 = true then
      if fits (List.length u0_5 + List.length r6.1) 1 then
       s0 u0_0 r6.2 u0_2 u0_3 (IntKind.i64.wrap (u0_4 + (1 : Int))) (u0_5 ++ r6.1)
      else none
     else
      if fits (List.length u0_5 + List.length r6.1) 1 then
       s0 u0_0 false u0_2 u0_3 (IntKind.i64.wrap (u0_4 + (1 : Int))) (u0_5 ++ r6.1)
      else none
   else none
  else none
  else
  if (!u0_1) = true then
   Option.bind (m_ticketlinelaw04_writes u0_0 ([] : List Int) (2 : Int)) fun r10 =>
   if r10 = true then
    Option.bind (m_ticketlinelaw04_known) fun r11 =>
    some r11
   else
    some false
  else
   Option.bind (m_ticketlinelaw04_writes u0_0 u0_5 (0 : Int)) fun r12 =>
   if r12 = true then
    Option.bind (m_ticketlinelaw04_known) fun r13 =>
    some r13
   else
    some false
def m_ticketlinelaw04_ScriptWrites_l0 (N : Nat) : Nat → (List (Int × (Int × (Int × (Int × (ByteArray × (ByteArray × (ByteArray × (Int × Unit))))))))) → Bool → (List (Int × (Int × (Int × (Int × (ByteArray × (ByteArray × (ByteArray × (Int × Unit))))))))) → Int → Int → (List Int) → Option Bool
  | 0, _, _, _, _, _, _ => none
  | n + 1, u0_0, u0_1, u0_2, u0_3, u0_4, u0_5 => m_ticketlinelaw04_ScriptWrites_l0_b (m_ticketlinelaw04_ScriptWrites_l0 N n) u0_0 u0_1 u0_2 u0_3 u0_4 u0_5
def m_ticketlinelaw04_ScriptWrites_a (l0 : ((List (Int × (Int × (Int × (Int × (ByteArray × (ByteArray × (ByteArray × (Int × Unit))))))))) → Bool → (List (Int × (Int × (Int × (Int × (ByteArray × (ByteArray × (ByteArray × (Int × Unit))))))))) → Int → Int → (List Int) → Option Bool)) (x0 : (List (Int × (Int × (Int × (Int × (ByteArray × (ByteArray × (ByteArray × (Int × Unit)))))))))) : Option Bool :=
  Option.bind (m_ticketlinelaw04_few x0 (12 : Int)) fun r1 =>
  if (!r1) = true then
  Option.bind (m_ticketlinelaw04_known) fun r2 =>
  some r2
  else
  l0 x0 true x0 (x0.length : Int) (0 : Int) ([] : List Int)
def m_ticketlinelaw04_ScriptWrites (x0 : (List (Int × (Int × (Int × (Int × (ByteArray × (ByteArray × (ByteArray × (Int × Unit)))))))))) : Option Bool := m_ticketlinelaw04_ScriptWrites_a (m_ticketlinelaw04_ScriptWrites_l0 FUEL FUEL) x0
def m_ticketlinelaw04_ScriptKeys (x0 : Int) : Option Bool :=
  Option.bind (m_script_Key x0) fun r1 =>
  Option.bind (m_ticketlineref04_Key (IntKind.i64.wrap x0)) fun r3 =>
  if (strEq r1 r3) = true then
  Option.bind (m_script_Value x0) fun r4 =>
  Option.bind (m_ticketlineref04_Value (IntKind.i64.wrap x0)) fun r6 =>
  if (strEq r4 r6) = true then
   Option.bind (m_ticketlinelaw04_known) fun r7 =>
   some r7
  else
   some false
  else
  some false
def m_ticketlinelaw04_ScriptLongs_l2_b (s2 : (Int → Int → Int → (List (Int × (Int × (Int × (Int × (ByteArray × (ByteArray × (ByteArray × (Int × Unit))))))))) → (List Int) → Option Bool)) (u2_0 : Int) (u2_1 : Int) (u2_2 : Int) (u2_3 : (List (Int × (Int × (Int × (Int × (ByteArray × (ByteArray × (ByteArray × (Int × Unit)))))))))) (u2_4 : (List Int)) : Option Bool :=
  if (decide (u2_2 < u2_1)) = true then
  if (0 : Int) ≤ u2_2 then
   if u2_2 < (u2_3.length : Int) then
    let v20 := ([(3 : Int), (5 : Int)] : List Int)
    if fits (List.length u2_4 + List.length v20) 1 then
     s2 u2_0 u2_1 (IntKind.i64.wrap (u2_2 + (1 : Int))) (List.set u2_3 u2_2.toNat ((2 : Int), ((0 : Int), ((5 : Int), ((0 : Int), ((⟨#[]⟩ : ByteArray), ((⟨#[]⟩ : ByteArray), ((⟨#[]⟩ : ByteArray), ((0 : Int), ()))))))))) (u2_4 ++ v20)
    else none
   else none
  else none
  else
  if (decide ((IntKind.i64.wrap ((2 : Int) * u2_0)) > (4096 : Int))) = true then
   Option.bind (m_ticketlinelaw04_writes u2_3 ([] : List Int) (5 : Int)) fun r24 =>
   if r24 = true then
    Option.bind (m_ticketlinelaw04_known) fun r25 =>
    some r25
   else
    some false
  else
   Option.bind (m_ticketlinelaw04_writes u2_3 u2_4 (0 : Int)) fun r26 =>
   if r26 = true then
    Option.bind (m_ticketlinelaw04_known) fun r27 =>
    some r27
   else
    some false
def m_ticketlinelaw04_ScriptLongs_l2 (N : Nat) : Nat → Int → Int → Int → (List (Int × (Int × (Int × (Int × (ByteArray × (ByteArray × (ByteArray × (Int × Unit))))))))) → (List Int) → Option Bool
  | 0, _, _, _, _, _ => none
  | n + 1, u2_0, u2_1, u2_2, u2_3, u2_4 => m_ticketlinelaw04_ScriptLongs_l2_b (m_ticketlinelaw04_ScriptLongs_l2 N n) u2_0 u2_1 u2_2 u2_3 u2_4
def m_ticketlinelaw04_ScriptLongs_l1_b (s1 : (Int → Int → Int → Int → Int → (List Int) → Option Bool)) (l2 : (Int → Int → Int → (List (Int × (Int × (Int × (Int × (ByteArray × (ByteArray × (ByteArray × (Int × Unit))))))))) → (List Int) → Option Bool)) (u1_0 : Int) (u1_1 : Int) (u1_2 : Int) (u1_3 : Int) (u1_4 : Int) (u1_5 : (List Int)) : Option Bool :=
  if (decide (u1_4 < u1_3)) = true then
  if (0 : Int) ≤ u1_4 then
   if u1_4 < (u1_5.length : Int) then
    s1 u1_0 u1_1 u1_2 u1_3 (IntKind.i64.wrap (u1_4 + (1 : Int))) (List.set u1_5 u1_4.toNat u1_1)
   else none
  else none
  else
  if (decide (u1_0 > (4096 : Int))) = true then
   Option.bind (m_ticketlinelaw04_parses u1_5 (3 : Int) (5 : Int) ([] : List (Int × (Int × (Int × (Int × (ByteArray × (ByteArray × (ByteArray × (Int × Unit)))))))))) fun r15 =>
   if (!r15) = true then
    some false
   else
    if (0 : Int) ≤ u1_2 then
     if u1_2 ≤ u1_2 then
      if fits u1_2.toNat 88 then
       let v16 := (List.replicate u1_2.toNat ((0 : Int), ((0 : Int), ((0 : Int), ((0 : Int), ((⟨#[]⟩ : ByteArray), ((⟨#[]⟩ : ByteArray), ((⟨#[]⟩ : ByteArray), ((0 : Int), ())))))))))
       l2 u1_2 (v16.length : Int) (0 : Int) v16 ([] : List Int)
      else none
     else none
    else none
  else
   Option.bind (m_ticketlineref04_Parse u1_5 (3 : Int)) fun r28 =>
   Option.bind (m_ticketlinelaw04_parses u1_5 (3 : Int) (0 : Int) r28) fun r29 =>
   if (!r29) = true then
    some false
   else
    if (0 : Int) ≤ u1_2 then
     if u1_2 ≤ u1_2 then
      if fits u1_2.toNat 88 then
       let v30 := (List.replicate u1_2.toNat ((0 : Int), ((0 : Int), ((0 : Int), ((0 : Int), ((⟨#[]⟩ : ByteArray), ((⟨#[]⟩ : ByteArray), ((⟨#[]⟩ : ByteArray), ((0 : Int), ())))))))))
       l2 u1_2 (v30.length : Int) (0 : Int) v30 ([] : List Int)
      else none
     else none
    else none
def m_ticketlinelaw04_ScriptLongs_l1 (N : Nat) : Nat → Int → Int → Int → Int → Int → (List Int) → Option Bool
  | 0, _, _, _, _, _, _ => none
  | n + 1, u1_0, u1_1, u1_2, u1_3, u1_4, u1_5 => m_ticketlinelaw04_ScriptLongs_l1_b (m_ticketlinelaw04_ScriptLongs_l1 N n) (m_ticketlinelaw04_ScriptLongs_l2 N N) u1_0 u1_1 u1_2 u1_3 u1_4 u1_5
def m_ticketlinelaw04_ScriptLongs_l0_b (l1 : (Int → Int → Int → Int → Int → (List Int) → Option Bool)) (u0_0 : Int) (u0_1 : Int) (u0_2 : Int) : Option Bool :=
  if (0 : Int) ≤ u0_0 then
  if u0_0 ≤ u0_0 then
   if fits u0_0.toNat 1 then
    let v9 := (List.replicate u0_0.toNat (0 : Int))
    l1 u0_0 u0_1 u0_2 (v9.length : Int) (0 : Int) v9
   else none
  else none
  else none
def m_ticketlinelaw04_ScriptLongs_l0 (N : Nat) (u0_0 : Int) (u0_1 : Int) (u0_2 : Int) : Option Bool := m_ticketlinelaw04_ScriptLongs_l0_b (m_ticketlinelaw04_ScriptLongs_l1 N N) u0_0 u0_1 u0_2
def m_ticketlinelaw04_ScriptLongs_a (l0 : (Int → Int → Int → Option Bool)) (x0 : Int) (x1 : Int) (x2 : Int) : Option Bool :=
  if (decide (x0 < (4094 : Int))) = true then
  Option.bind (m_ticketlinelaw04_known) fun r2 =>
  some r2
  else
  if (decide (x0 > (4098 : Int))) = true then
   Option.bind (m_ticketlinelaw04_known) fun r4 =>
   some r4
  else
   if (decide (x2 < (2046 : Int))) = true then
    Option.bind (m_ticketlinelaw04_known) fun r6 =>
    some r6
   else
    if (decide (x2 > (2050 : Int))) = true then
     Option.bind (m_ticketlinelaw04_known) fun r8 =>
     some r8
    else
     l0 x0 x1 x2
def m_ticketlinelaw04_ScriptLongs (x0 : Int) (x1 : Int) (x2 : Int) : Option Bool := m_ticketlinelaw04_ScriptLongs_a (m_ticketlinelaw04_ScriptLongs_l0 FUEL) x0 x1 x2
def m_ticketlinelaw04_ScriptHolds_l0_b (s0 : ((List Int) → Int → Int → Int → Int → Int → (List (Int × (Int × (Int × (Int × (ByteArray × (ByteArray × (ByteArray × (Int × Unit))))))))) → Option Bool)) (u0_0 : (List Int)) (u0_1 : Int) (u0_2 : Int) (u0_3 : Int) (u0_4 : Int) (u0_5 : Int) (u0_6 : (List (Int × (Int × (Int × (Int × (ByteArray × (ByteArray × (ByteArray × (Int × Unit)))))))))) : Option Bool :=
  if (decide (u0_5 < u0_4)) = true then
  if (0 : Int) ≤ u0_5 then
   if u0_5 < (u0_6.length : Int) then
    let v24 := (rd (.pair (.int .i64) (.pair (.int .i64) (.pair (.int .i64) (.pair (.int .i64) (.pair .str (.pair .str (.pair .str (.pair (.int .i64) .nl)))))))) u0_6 u0_5).1
    let v25 := (rd (.pair (.int .i64) (.pair (.int .i64) (.pair (.int .i64) (.pair (.int .i64) (.pair .str (.pair .str (.pair .str (.pair (.int .i64) .nl)))))))) u0_6 u0_5).2.1
    let v26 := (rd (.pair (.int .i64) (.pair (.int .i64) (.pair (.int .i64) (.pair (.int .i64) (.pair .str (.pair .str (.pair .str (.pair (.int .i64) .nl)))))))) u0_6 u0_5).2.2.1
    let v27 := (rd (.pair (.int .i64) (.pair (.int .i64) (.pair (.int .i64) (.pair (.int .i64) (.pair .str (.pair .str (.pair .str (.pair (.int .i64) .nl)))))))) u0_6 u0_5).2.2.2.1
    let v28 := (rd (.pair (.int .i64) (.pair (.int .i64) (.pair (.int .i64) (.pair (.int .i64) (.pair .str (.pair .str (.pair .str (.pair (.int .i64) .nl)))))))) u0_6 u0_5).2.2.2.2.1
    let v29 := (rd (.pair (.int .i64) (.pair (.int .i64) (.pair (.int .i64) (.pair (.int .i64) (.pair .str (.pair .str (.pair .str (.pair (.int .i64) .nl)))))))) u0_6 u0_5).2.2.2.2.2.1
    let v30 := (rd (.pair (.int .i64) (.pair (.int .i64) (.pair (.int .i64) (.pair (.int .i64) (.pair .str (.pair .str (.pair .str (.pair (.int .i64) .nl)))))))) u0_6 u0_5).2.2.2.2.2.2.1
    let v31 := (rd (.pair (.int .i64) (.pair (.int .i64) (.pair (.int .i64) (.pair (.int .i64) (.pair .str (.pair .str (.pair .str (.pair (.int .i64) .nl)))))))) u0_6 u0_5).2.2.2.2.2.2.2.1
    Option.bind (m_script_Valid (v24, (v25, (v26, (v27, (v28, (v29, (v30, (v31, ()))))))))) fun r32 =>
    if (!r32) = true then
     some false
    else
     if (decide (v25 < (0 : Int))) = true then
      some false
     else
      if (decide (v25 ≥ u0_1)) = true then
       some false
      else
       if (decide (u0_3 ≥ (u0_0.length : Int))) = true then
        some false
       else
        if (0 : Int) ≤ (u0_0.length : Int) then
         if (u0_0.length : Int) ≤ (u0_0.length : Int) then
          if (0 : Int) ≤ u0_3 then
           if u0_3 ≤ (u0_0.length : Int) then
            Option.bind (m_script_Next (win u0_0 u0_3 ((u0_0.length : Int) - u0_3)) u0_1) fun r38 =>
            if (r38.2.2 != (0 : Int)) = true then
             some false
            else
             if (!(Ty.beq (.pair (.int .i64) (.pair (.int .i64) (.pair (.int .i64) (.pair (.int .i64) (.pair .str (.pair .str (.pair .str (.pair (.int .i64) .nl)))))))) r38.1 (v24, (v25, (v26, (v27, (v28, (v29, (v30, (v31, ())))))))))) = true then
              some false
             else
              if (decide (r38.2.1 < (1 : Int))) = true then
               some false
              else
               if (decide (r38.2.1 > (IntKind.i64.wrap ((u0_0.length : Int) - u0_3)))) = true then
                some false
               else
                let v45 := (IntKind.i64.wrap (u0_3 + r38.2.1))
                if ((IntKind.i64.wrap (u0_5 + (1 : Int))) == u0_2) = true then
                 if (0 : Int) ≤ v45 then
                  if v45 ≤ (u0_0.length : Int) then
                   if (0 : Int) ≤ v45 then
                    if (0 : Int) ≤ u0_2 then
                     if u0_2 ≤ (u0_6.length : Int) then
                      if (0 : Int) ≤ u0_2 then
                       Option.bind (m_ticketlinelaw04_parses (win u0_0 (0 : Int) (v45 - (0 : Int))) u0_1 (0 : Int) (win u0_6 (0 : Int) (u0_2 - (0 : Int)))) fun r49 =>
                       if (!r49) = true then
                        some false
                       else
                        s0 u0_0 u0_1 u0_2 v45 u0_4 (IntKind.i64.wrap (u0_5 + (1 : Int))) u0_6
                      else none
                     else none
                    else none
                   else none
                  else none
                 else none
                else
                 s0 u0_0 u0_1 u0_2 v45 u0_4 (IntKind.i64.wrap (u0_5 + (1 : Int))) u0_6
           else none
          else none
         else none
        else none
   else none
  else none
  else
  Option.bind (m_script_Write u0_6) fun r52 =>
  if (u0_3 == (u0_0.length : Int)) = true then
   if (r52.2 == (0 : Int)) = true then
    Option.bind (m_ticketlinelaw04_parses r52.1 u0_1 (0 : Int) u0_6) fun r55 =>
    if r55 = true then
     Option.bind (m_ticketlinelaw04_known) fun r56 =>
     some r56
    else
     some false
   else
    some false
  else
   some false
def m_ticketlinelaw04_ScriptHolds_l0 (N : Nat) : Nat → (List Int) → Int → Int → Int → Int → Int → (List (Int × (Int × (Int × (Int × (ByteArray × (ByteArray × (ByteArray × (Int × Unit))))))))) → Option Bool
  | 0, _, _, _, _, _, _, _ => none
  | n + 1, u0_0, u0_1, u0_2, u0_3, u0_4, u0_5, u0_6 => m_ticketlinelaw04_ScriptHolds_l0_b (m_ticketlinelaw04_ScriptHolds_l0 N n) u0_0 u0_1 u0_2 u0_3 u0_4 u0_5 u0_6
def m_ticketlinelaw04_ScriptHolds_a (l0 : ((List Int) → Int → Int → Int → Int → Int → (List (Int × (Int × (Int × (Int × (ByteArray × (ByteArray × (ByteArray × (Int × Unit))))))))) → Option Bool)) (x0 : (List Int)) (x1 : Int) (x2 : Int) (x3 : Int) (x4 : Int) : Option Bool :=
  if (decide ((x0.length : Int) > (100 : Int))) = true then
  Option.bind (m_ticketlinelaw04_known) fun r3 =>
  some r3
  else
  if (decide (x1 < (1 : Int))) = true then
   Option.bind (m_ticketlinelaw04_known) fun r5 =>
   some r5
  else
   if (decide (x1 > (32 : Int))) = true then
    Option.bind (m_ticketlinelaw04_known) fun r7 =>
    some r7
   else
    if (decide (x2 < (0 : Int))) = true then
     Option.bind (m_ticketlinelaw04_known) fun r9 =>
     some r9
    else
     Option.bind (m_script_Key x3) fun r10 =>
     let v11 := (r10.size : Int)
     if (decide (v11 < (1 : Int))) = true then
      some false
     else
      if (decide (v11 > (24 : Int))) = true then
       some false
      else
       Option.bind (m_script_Value x3) fun r14 =>
       if (decide ((r14.size : Int) > (40 : Int))) = true then
        some false
       else
        Option.bind (m_script_Key x3) fun r17 =>
        Option.bind (m_script_Key x4) fun r18 =>
        if (!((strEq r17 r18) == (x3 == x4))) = true then
         some false
        else
         Option.bind (m_script_Parse x0 x1) fun r20 =>
         if (r20.2 != (0 : Int)) = true then
          some false
         else
          l0 x0 x1 x2 (0 : Int) (r20.1.length : Int) (0 : Int) r20.1
def m_ticketlinelaw04_ScriptHolds (x0 : (List Int)) (x1 : Int) (x2 : Int) (x3 : Int) (x4 : Int) : Option Bool := m_ticketlinelaw04_ScriptHolds_a (m_ticketlinelaw04_ScriptHolds_l0 FUEL FUEL) x0 x1 x2 x3 x4
end Go.Ev.M
