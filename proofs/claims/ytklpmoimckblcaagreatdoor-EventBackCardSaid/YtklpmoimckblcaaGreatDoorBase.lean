/-
  What the last step of every statement that is a card wants.
-/
import Derived.Test.YtklpmoimckblcaaGreatDoorCards
import Derived.Test.YtklpmoimckblcaaGreatDoorTie
import Derived.Test.YtklpmoimckblcaaGreatDoorBaseOf
